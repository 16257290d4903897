/- How a row of the call's own is made and changed. -/
import Derived.Test.YtkgjchmfiohciaaDenS2
namespace Go.Proofs.Ytkgjchmfiohciaa.Den
open Go.RowKit
set_option linter.unusedVariables false
set_option linter.unusedSimpArgs false
variable {P : Program} {τ : Nat → Option Ty} {C : Cx}
theorem BelowX.grown {io : Nat → Prop} {B : Nat} {a w w' : World} {row : Option Nat} (h : BelowX io B a w) (hg : w.grownBy w' row) (hB : B ≤ w.heap.size) (hr : ∀ k, row = some k → B ≤ k ∨ io k) : BelowX io B a w' :=
  ⟨hg.os.trans h.os, hg.tape.trans h.tape, hg.output.trans h.output, Nat.le_trans h.size hg.size, fun k hk hn => by
    rw [hg.block k (by omega) (fun e => by rcases hr k e.symm with h | h; omega; exact hn h)]; exact h.block k hk hn⟩
theorem BelowX.refl (io : Nat → Prop) (B : Nat) (w : World) : BelowX io B w w := ⟨rfl, rfl, rfl, Nat.le_refl _, fun _ _ _ => rfl⟩
theorem BelowX.below {B : Nat} {w w' : World} (h : BelowX (fun _ => False) B w w') : Below B w w' := ⟨h.os, h.tape, h.output, h.size, fun k hk => h.block k hk (fun h => h)⟩
theorem RowOK.blk_lt {E : RE} {v : Value} {row : Row} (h : RowOK C E v row) {b : Nat} (hb : blk v = some b) : C.own b ∧ b < E.w.heap.size := by
  unfold RowOK at h
  cases hr : row.b with
  | cells cs =>
    rw [hr] at h
    obtain ⟨b', c, rfl, h1, h2, _⟩ := h
    simp only [blk, Option.some.injEq] at hb
    subst hb
    exact ⟨h1, (Array.getElem?_eq_some_iff.1 h2).1⟩
  | list k xs =>
    rw [hr] at h
    obtain ⟨vals, ho, _⟩ := h
    exact ho.own_of hb
theorem RowOK.mono {E E' : RE} {v : Value} {row : Row} (h : RowOK C E v row) (m : Mono E E') (hb : ∀ b, blk v = some b → E'.w.heap[b]? = E.w.heap[b]?) : RowOK C E' v row := by
  unfold RowOK at *
  cases hr : row.b with
  | cells cs =>
    rw [hr] at h
    obtain ⟨b', c, rfl, h1, h2, h3⟩ := h
    exact ⟨b', c, rfl, h1, by rw [hb b' rfl]; exact h2, rels_mono m h3⟩
  | list k xs =>
    rw [hr] at h
    obtain ⟨vals, ho, hl, hf⟩ := h
    refine ⟨vals, ⟨ho.1, ?_⟩, RL_imp (fun x c hx => RC_mono m.rd hx) hl, fun hw b hbb => (m.rd b (hf hw b hbb)).1⟩
    rcases ho.2 with ⟨he, hn⟩ | ⟨g, cap, cur, he, h1, h2, h3⟩
    · exact .inl ⟨he, hn⟩
    · exact .inr ⟨g, cap, cur, he, h1, by rw [hb g (by rcases he with he | ⟨he, _⟩ <;> rw [he] <;> rfl)]; exact h2, h3⟩
theorem Inv.change {ρ : Nat → Value} {s : St} {a : Act} {w : World} (I : Inv C ρ s a w) {id : Nat} {row' : Row} {v' : Value} {w' : World} (old : Option Nat)
    (hold : ∀ b, old = some b → ∃ r, s.h id = some r ∧ r.wr = true ∧ blk (ρ id) = some b)
    (hg : w.grownBy w' old)
    (hver : ∀ r, s.h id = some r → r.ver ≤ row'.ver ∧ (row'.ver = r.ver → r.b.like row'.b ∧ v' = ρ id))
    (hblk : ∀ b, blk v' = some b → (∃ r, s.h id = some r ∧ blk (ρ id) = some b ∧ (row'.wr = true → r.wr = true)) ∨ w.heap.size ≤ b)
    (hrow : Mono (envOf C ρ s.h w) (envOf C (upd ρ id v') (upd s.h id (some row')) w') → RowOK C (envOf C (upd ρ id v') (upd s.h id (some row')) w') v' row') :
    Inv C (upd ρ id v') ⟨s.t, upd s.h id (some row')⟩ a w' ∧ Mono (envOf C ρ s.h w) (envOf C (upd ρ id v') (upd s.h id (some row')) w') := by
  have hlt : ∀ i r b, s.h i = some r → blk (ρ i) = some b → C.own b ∧ b < w.heap.size := fun i r b hr hb => (I.rows i r hr).blk_lt hb
  have m : Mono (envOf C ρ s.h w) (envOf C (upd ρ id v') (upd s.h id (some row')) w') := by
    refine ⟨fun b hb => ?_, fun i r hr => ?_⟩
    · obtain ⟨h1, h2, h3⟩ := hb
      refine ⟨⟨Nat.lt_of_lt_of_le h1 hg.size, h2, fun i r hr hw he => ?_⟩, ?_⟩
      · by_cases e : i = id
        · subst e
          rw [upd_same] at hr he
          injection hr with hr
          subst hr
          rcases hblk b he with ⟨r, h4, h5, h6⟩ | h4
          · exact h3 i r h4 (h6 hw) h5
          · omega
        · rw [upd_other _ _ e] at hr he
          exact h3 i r hr hw he
      · refine hg.block b h1 fun e => ?_
        obtain ⟨r, h4, h5, h6⟩ := hold b e.symm
        exact h3 id r h4 h5 h6
    · by_cases e : i = id
      · subst e
        refine ⟨row', upd_same _ _ _, (hver r hr).1, fun hv => ⟨((hver r hr).2 hv).1, ?_⟩⟩
        show upd ρ i v' i = ρ i
        rw [upd_same]
        exact ((hver r hr).2 hv).2
      · exact ⟨r, by show upd s.h id _ i = _; rw [upd_other _ _ e]; exact hr, Nat.le_refl _, fun _ => ⟨RowB.like_refl _, upd_other _ _ e⟩⟩
  refine ⟨⟨I.hd, I.sz, ?_, fun i r hr => ?_, fun i j r r' b hr hr' hb hb' => ?_, fun i => rel_mono m (I.tm i)⟩, m⟩
  · exact I.fr.grown hg (I.fr.size) fun k hk => by
      obtain ⟨r, h4, h5, h6⟩ := hold k hk
      exact (hlt id r k h4 h6).1
  · by_cases e : i = id
    · subst e
      have hr : upd s.h i (some row') i = some r := hr
      rw [upd_same] at hr ⊢
      injection hr with hr
      subst hr
      exact hrow m
    · have hr : upd s.h id (some row') i = some r := hr
      rw [upd_other _ _ e] at hr ⊢
      refine (I.rows i r hr).mono m fun b hb => ?_
      refine hg.block b (hlt i r b hr hb).2 fun e' => ?_
      obtain ⟨r', h4, h5, h6⟩ := hold b e'.symm
      exact e (I.inj i id r r' b hr h4 hb h6)
  · have key : ∀ i j r r', i ≠ j → upd s.h id (some row') i = some r → upd s.h id (some row') j = some r' → upd ρ id v' i = upd ρ id v' i → blk (upd ρ id v' i) = some b → blk (upd ρ id v' j) = some b → i = id → False := by
      intro i j r r' hne hr hr' _ hb hb' e
      subst e
      have hj : j ≠ i := fun h => hne h.symm
      rw [upd_other _ _ hj] at hr' hb'
      rw [upd_same] at hb
      rcases hblk b hb with ⟨r0, h4, h5, h6⟩ | h4
      · exact hne (I.inj i j r0 r' b h4 hr' h5 hb')
      · have := (hlt j r' b hr' hb').2; omega
    by_cases hne : i = j
    · exact hne
    · exfalso
      by_cases e : i = id
      · exact key i j r r' hne hr hr' rfl hb hb' e
      · by_cases e' : j = id
        · exact key j i r' r (fun h => hne h.symm) hr' hr rfl hb' hb e'
        · have hr : upd s.h id (some row') i = some r := hr
          have hr' : upd s.h id (some row') j = some r' := hr'
          rw [upd_other _ _ e] at hr hb
          rw [upd_other _ _ e'] at hr' hb'
          exact hne (I.inj i j r r' b hr hr' hb hb')
theorem nver_lt (h : Nat → Option Row) (d : Nat) : ∀ r, h d = some r → r.ver < nver h d := by
  intro r hr
  simp [nver, hr]
/-- The same world (but for its draws). -/
theorem grownBy_refl (w : World) (o : Option Nat) : w.grownBy w o := ⟨rfl, rfl, rfl, Nat.le_refl _, fun _ _ _ => rfl⟩
/-- A world that grows by blocks of which the state does not tell. -/
theorem Inv.grow {ρ : Nat → Value} {s : St} {a : Act} {w w' : World} (I : Inv C ρ s a w) (hg : w.grownBy w' none) : Inv C ρ s a w' ∧ Mono (envOf C ρ s.h w) (envOf C ρ s.h w') := by
  have hlt : ∀ i r b, s.h i = some r → blk (ρ i) = some b → C.own b ∧ b < w.heap.size := fun i r b hr hb => (I.rows i r hr).blk_lt hb
  have m : Mono (envOf C ρ s.h w) (envOf C ρ s.h w') := by
    refine ⟨fun b hb => ?_, fun i r hr => ⟨r, hr, Nat.le_refl _, fun _ => ⟨RowB.like_refl _, rfl⟩⟩⟩
    obtain ⟨h1, h2, h3⟩ := hb
    exact ⟨⟨Nat.lt_of_lt_of_le h1 hg.size, h2, h3⟩, hg.block b h1 (by simp)⟩
  exact ⟨⟨I.hd, I.sz, I.fr.grown hg I.fr.size (by simp), fun i r hr => (I.rows i r hr).mono m fun b hb => hg.block b (hlt i r b hr hb).2 (by simp), I.inj, fun i => rel_mono m (I.tm i)⟩, m⟩
/-- A row is frozen. -/
theorem Inv.freeze1 {ρ : Nat → Value} {s : St} {a : Act} {w : World} (I : Inv C ρ s a w) {id : Nat} {r : Row} (hr : s.h id = some r) :
    Inv C ρ ⟨s.t, upd s.h id (some { r with wr := false })⟩ a w ∧ Mono (envOf C ρ s.h w) (envOf C ρ (upd s.h id (some { r with wr := false })) w) := by
  have h1 := Inv.change (C := C) I (id := id) (row' := { r with wr := false }) (v' := ρ id) (w' := w) none (by simp) (grownBy_refl w none)
    (fun r' hr' => by rw [hr] at hr'; injection hr' with hr'; subst hr'; exact ⟨Nat.le_refl _, fun _ => ⟨RowB.like_refl _, rfl⟩⟩)
    (fun b hb => .inl ⟨r, hr, hb, fun h => by simp at h⟩)
    (fun m => by
      have h := (I.rows id r hr).mono m (fun b _ => rfl)
      have h' := I.rows id r hr
      unfold RowOK at *
      cases hb : r.b with
      | cells cs => rw [hb] at h; exact h
      | list k xs =>
        rw [hb] at h h'
        obtain ⟨vals, ho, hl, hf⟩ := h
        refine ⟨vals, ho, hl, fun _ b hbb => ?_⟩
        have hlt := (I.rows id r hr).blk_lt hbb
        refine ⟨hlt.2, .inr hlt.1, fun i r' hr' hw he => ?_⟩
        change upd s.h id _ i = some r' at hr'
        have he : blk (upd ρ id (ρ id) i) = some b := he
        by_cases e : i = id
        · subst e
          rw [upd_same] at hr'
          injection hr' with hr'
          subst hr'
          simp at hw
        · rw [upd_other _ _ e] at hr' he
          exact e (I.inj i id r' r b hr' hr he hbb))
  have e : upd ρ id (ρ id) = ρ := funext fun i => by
    by_cases e : i = id
    · subst e; exact upd_same _ _ _
    · exact upd_other _ _ e
  rw [e] at h1
  exact h1
end Go.Proofs.Ytkgjchmfiohciaa.Den
