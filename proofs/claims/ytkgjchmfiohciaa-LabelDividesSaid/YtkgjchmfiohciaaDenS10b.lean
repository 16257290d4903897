/- Values as data, with what they lead to. -/
import Derived.Test.YtkgjchmfiohciaaDenS10
namespace Go.Proofs.Ytkgjchmfiohciaa.Den
open Go.RowKit
set_option linter.unusedVariables false
set_option linter.unusedSimpArgs false
variable {P : Program} {C : Cx} {s : St} {h' : Nat → Option Row}
/-- A slice with what it leads to. -/
theorem rdSl_gen {ρ : Nat → Value} {a : Act} {w : World} (I : Inv C ρ s a w) {rd' : Nat → Prop} (hrd : ∀ b, Rd C s.h ρ w b → rd' b) {k : K} {v : AV} {xs : List (T k)} {u : Value}
    (hids : ∀ id ∈ v.ids, ∀ r, s.h id = some r → ∀ b, blk (ρ id) = some b → rd' b)
    (hsub : ∀ id row, h' id = some row → s.h id = some row) (hr : rdSl h' k v = some xs) (hv : rel (envOf C ρ s.h w) v u) : RC w rd' (.slice k) xs [u] := by
  have pureCase : rdSl noRows k v = some xs → RC w rd' (.slice k) xs [u] := fun h => RC_mono (fun b hb => ⟨hrd b hb, rfl⟩) (rdSl_pure h hv)
  have mk : ∀ A cap vals, u = .slice A xs.length cap → xs.length ≤ cap → RL (RC w (Rd C s.h ρ w) k) xs vals → (vals ≠ [] → ∃ b off, A = some ⟨b, off, none⟩ ∧ rd' b ∧ At w b off vals) → RC w rd' (.slice k) xs [u] := by
    intro A cap vals h1 h2 h3 h4
    exact ⟨A, cap, vals, by rw [h1], h2, RL_imp (fun x c hx => RC_mono (fun b hb => ⟨hrd b hb, rfl⟩) hx) h3, h4⟩
  cases v with
  | nilsl => exact pureCase hr
  | p k' x => exact pureCase (by cases k' <;> exact hr)
  | pc k' x => exact pureCase hr
  | slw id ver fl =>
    obtain ⟨A, cap, vals, h1, h2, h3, h4⟩ := rdSl_reads I hsub hr hv
    refine mk A cap vals h1 h2 h3 fun hne => ?_
    obtain ⟨b, off, rfl, hat⟩ := h4 hne
    refine ⟨b, off, rfl, ?_, hat⟩
    simp only [rdSl] at hr
    split at hr
    · rename_i rv wr ty k' ys hrow
      split at hr
      · rename_i e
        obtain ⟨_, row, e1, e2, e3⟩ := hv
        have h5 := hsub _ _ hrow
        have e1 : s.h id = some row := e1
        rw [h5] at e1
        injection e1 with e1
        subst e1
        obtain ⟨_, e5⟩ := e3 e.1
        have e5 : u = ρ id := e5
        exact hids id (by simp [AV.ids]) _ h5 b (by rw [← e5, h1]; rfl)
      · cases hr
    · cases hr
  | sl id ver off len =>
    obtain ⟨A, cap, vals, h1, h2, h3, h4⟩ := rdSl_reads I hsub hr hv
    refine mk A cap vals h1 h2 h3 fun hne => ?_
    obtain ⟨b, of, rfl, hat⟩ := h4 hne
    refine ⟨b, of, rfl, ?_, hat⟩
    simp only [rdSl] at hr
    split at hr
    · rename_i rv wr ty k' ys hrow
      split at hr
      · rename_i e
        obtain ⟨rfl, rfl⟩ := e
        obtain ⟨_, row, e1, e2, e3⟩ := hv
        have h5 := hsub _ _ hrow
        have e1 : s.h id = some row := e1
        rw [h5] at e1
        injection e1 with e1
        subst e1
        obtain ⟨_, k2, xs2, A, cap', hb2, hof, hlc, he, hA, _⟩ := e3 rfl
        have hlen : xs.length = len := by
          rw [he] at h1
          simp only [Value.slice.injEq] at h1
          exact h1.2.1.symm
        have hpos : 0 < len := by
          rcases Nat.eq_zero_or_pos len with h0 | h0
          · rw [h0] at hlen
            have : xs = [] := List.eq_nil_of_length_eq_zero hlen
            subst this
            exact absurd (show vals = [] from h3) hne
          · exact h0
        obtain ⟨b', hb', hA'⟩ := hA hpos
        rw [he, hA'] at h1
        simp only [Value.slice.injEq, Option.some.injEq, Addr.mk.injEq] at h1
        obtain ⟨⟨rfl, _⟩, _⟩ := h1
        exact hids id (by simp [AV.ids]) _ h5 b' hb'
      · cases hr
    · cases hr
  | sa id ver off len =>
    obtain ⟨A, cap, vals, h1, h2, h3, h4⟩ := rdSl_reads I hsub hr hv
    refine mk A cap vals h1 h2 h3 fun hne => ?_
    obtain ⟨b, of, rfl, hat⟩ := h4 hne
    refine ⟨b, of, rfl, ?_, hat⟩
    simp only [rdSl] at hr
    split at hr
    · rename_i rv wr ty k' ys hrow
      split at hr
      · rename_i e
        obtain ⟨rfl, rfl⟩ := e
        obtain ⟨_, row, e1, e2, e3⟩ := hv
        have h5 := hsub _ _ hrow
        have e1 : s.h id = some row := e1
        rw [h5] at e1
        injection e1 with e1
        subst e1
        obtain ⟨k2, xs2, A, cap', hb2, hof, hlc, he, hA⟩ := e3 rfl
        have hlen : xs.length = len := by
          rw [he] at h1
          simp only [Value.slice.injEq] at h1
          exact h1.2.1.symm
        have hpos : 0 < len := by
          rcases Nat.eq_zero_or_pos len with h0 | h0
          · rw [h0] at hlen
            have : xs = [] := List.eq_nil_of_length_eq_zero hlen
            subst this
            exact absurd (show vals = [] from h3) hne
          · exact h0
        obtain ⟨b', hb', hA'⟩ := hA hpos
        rw [he, hA'] at h1
        simp only [Value.slice.injEq, Option.some.injEq, Addr.mk.injEq] at h1
        obtain ⟨⟨rfl, _⟩, _⟩ := h1
        exact hids id (by simp [AV.ids]) _ h5 b' hb'
      · cases hr
    · cases hr
  | _ => simp [rdSl] at hr
/-- Cells as data, with what they lead to. -/
theorem unflatN_gen {R : RE} {p : AV → Prop} {α : Type} {f : List AV → Option (α × List AV)} {Q : α → List Value → Prop}
    (hf : ∀ l x l' vals, (∀ v ∈ l, p v) → f l = some (x, l') → rels R l vals → ∃ c d, vals = c ++ d ∧ Q x c ∧ rels R l' d ∧ (∀ v ∈ l', p v)) :
    ∀ (n : Nat) (l l' : List AV) (xs : List α) (vals : List Value), (∀ v ∈ l, p v) → unflatN f n l = some (xs, l') → rels R l vals → ∃ c d, vals = c ++ d ∧ xs.length = n ∧ RL Q xs c ∧ rels R l' d ∧ (∀ v ∈ l', p v)
  | 0, l, l', xs, vals, hp, h, hv => by
    simp only [unflatN, Option.some.injEq, Prod.mk.injEq] at h
    obtain ⟨rfl, rfl⟩ := h
    exact ⟨[], vals, by simp, rfl, rfl, hv, hp⟩
  | n + 1, l, l', xs, vals, hp, h, hv => by
    simp only [unflatN] at h
    split at h
    · rename_i a l1 ha
      split at h
      · rename_i bs l2 hb
        simp only [Option.some.injEq, Prod.mk.injEq] at h
        obtain ⟨rfl, rfl⟩ := h
        obtain ⟨c, d, rfl, h1, h2, hp2⟩ := hf l a l1 vals hp ha hv
        obtain ⟨c', d', rfl, h3, h4, h5, h6⟩ := unflatN_gen hf n l1 _ _ d hp2 hb h2
        exact ⟨c ++ c', d', by simp, by simp [h3], ⟨c, c', rfl, h1, h4⟩, h5, h6⟩
      · cases h
    · cases h
theorem unflat_gen {R : RE} {h0 : Nat → Option Row} {w : World} {rd : Nat → Prop} {p : AV → Prop} (leaf : ∀ (k : K) (v : AV) (x : T k) (u : Value), k.agg = false → p v → asK h0 k v = some x → rel R v u → RC w rd k x [u]) :
    ∀ (k : K) (l l' : List AV) (x : T k) (vals : List Value), (∀ v ∈ l, p v) → unflat h0 k l = some (x, l') → rels R l vals → ∃ c d, vals = c ++ d ∧ RC w rd k x c ∧ rels R l' d ∧ (∀ v ∈ l', p v) := by
  intro k
  have lf : ∀ (k : K), k.agg = false → ∀ (v : AV) (l : List AV) (x : T k) (vals : List Value), (∀ v' ∈ v :: l, p v') → asK h0 k v = some x → rels R (v :: l) vals → ∃ c d, vals = c ++ d ∧ RC w rd k x c ∧ rels R l d ∧ (∀ v' ∈ l, p v') := by
    intro k ha v l x vals hp hy hv
    obtain ⟨u, r, rfl, h1, h2⟩ := hv
    exact ⟨[u], r, rfl, leaf k v x u ha (hp v (by simp)) hy h1, h2, fun v' hv' => hp v' (List.mem_cons_of_mem _ hv')⟩
  induction k with
  | pair a b iha ihb =>
    intro l l' x vals hp h hv
    simp only [unflat] at h
    split at h
    · rename_i x1 l1 h1
      split at h
      · rename_i y l2 h2
        simp only [Option.some.injEq, Prod.mk.injEq] at h
        obtain ⟨rfl, rfl⟩ := h
        obtain ⟨c, d, rfl, h3, h4, hp2⟩ := iha l l1 x1 vals hp h1 hv
        obtain ⟨c', d', rfl, h5, h6, hp3⟩ := ihb l1 _ _ d hp2 h2 h4
        exact ⟨c ++ c', d', by simp, ⟨c, c', rfl, h3, h5⟩, h6, hp3⟩
      · cases h
    · cases h
  | one k ih => exact fun l l' x vals hp h hv => ih l l' x vals hp h hv
  | unit =>
    intro l l' x vals hp h hv
    simp only [unflat, Option.some.injEq, Prod.mk.injEq] at h
    obtain ⟨_, rfl⟩ := h
    exact ⟨[], vals, by simp, rfl, hv, hp⟩
  | arr n k ih =>
    intro l l' x vals hp h hv
    obtain ⟨c, d, e, h1, h2, h3, h4⟩ := unflatN_gen (Q := RC w rd k) (fun l x l' vals hp h hv => ih l l' x vals hp h hv) n l l' x vals hp h hv
    exact ⟨c, d, e, ⟨h1, h2⟩, h3, h4⟩
  | int i =>
    intro l l' x vals hp h hv
    cases l with
    | nil => simp [unflat] at h
    | cons v l =>
      simp only [unflat] at h
      split at h
      · rename_i y hy
        simp only [Option.some.injEq, Prod.mk.injEq] at h
        obtain ⟨rfl, rfl⟩ := h
        exact lf (.int i) rfl v _ y vals hp hy hv
      · cases h
  | bool =>
    intro l l' x vals hp h hv
    cases l with
    | nil => simp [unflat] at h
    | cons v l =>
      simp only [unflat] at h
      split at h
      · rename_i y hy
        simp only [Option.some.injEq, Prod.mk.injEq] at h
        obtain ⟨rfl, rfl⟩ := h
        exact lf .bool rfl v _ y vals hp hy hv
      · cases h
  | str =>
    intro l l' x vals hp h hv
    cases l with
    | nil => simp [unflat] at h
    | cons v l =>
      simp only [unflat] at h
      split at h
      · rename_i y hy
        simp only [Option.some.injEq, Prod.mk.injEq] at h
        obtain ⟨rfl, rfl⟩ := h
        exact lf .str rfl v _ y vals hp hy hv
      · cases h
  | slice i _ =>
    intro l l' x vals hp h hv
    cases l with
    | nil => simp [unflat] at h
    | cons v l =>
      simp only [unflat] at h
      split at h
      · rename_i y hy
        simp only [Option.some.injEq, Prod.mk.injEq] at h
        obtain ⟨rfl, rfl⟩ := h
        exact lf (.slice i) rfl v _ y vals hp hy hv
      · cases h
theorem ids_mem : ∀ {cs : List AV} {v : AV}, v ∈ cs → ∀ i ∈ v.ids, i ∈ AV.idss cs
  | [], v, h => by simp at h
  | c :: cs, v, h => by
    intro i hi
    rcases List.mem_cons.1 h with rfl | h
    · simp [AV.idss, hi]
    · simp [AV.idss, ids_mem h i hi]
/-- A value as data, with what it leads to. -/
theorem toK_gen {ρ : Nat → Value} {a : Act} {w : World} (I : Inv C ρ s a w) {rd' : Nat → Prop} (hrd : ∀ b, Rd C s.h ρ w b → rd' b) {k : K} {v : AV} {x : T k} {u : Value}
    (hids : ∀ id ∈ v.ids, ∀ r, s.h id = some r → ∀ b, blk (ρ id) = some b → rd' b)
    (hsub : ∀ id row, h' id = some row → s.h id = some row) (h : toK h' k v = some x) (hv : rel (envOf C ρ s.h w) v u) : VR w rd' k x u := by
  have slcase : ∀ (k : K) (x : List (T k)), rdSl h' k v = some x → VR w rd' (.slice k) x u := by
    intro k x h
    unfold VR
    rw [if_neg (by simp [K.agg])]
    exact rdSl_gen I hrd hids hsub h hv
  unfold toK at h
  split at h
  · rename_i cs
    split at h
    · rename_i y hy
      split at h
      · rename_i hk
        simp only [Option.some.injEq] at h
        subst h
        obtain ⟨c, rfl, hr⟩ := hv
        obtain ⟨a', b', e, h1, h2, _⟩ := unflat_gen (R := envOf C ρ s.h w) (h0 := h') (w := w) (rd := rd') (p := fun v => ∀ id ∈ v.ids, ∀ r, s.h id = some r → ∀ b, blk (ρ id) = some b → rd' b)
          (fun k v x u ha hp hx hv => by
            have gen : ∀ (k : K) (x : T k), k.agg = false → asP k v = some x → RC w rd' k x [u] := by
              intro k x ha h
              unfold asP at h
              split at h
              · split at h
                · rename_i e
                  subst e
                  simp only [castT_rfl, Option.some.injEq] at h
                  subst h
                  have hv : VR w (Rd C s.h ρ w) _ _ u := hv
                  have hv := VR_mono (w' := w) (rd' := rd') (fun b hb => ⟨hrd b hb, rfl⟩) hv
                  unfold VR at hv
                  rwa [if_neg (by simp [ha])] at hv
                · cases h
              · cases h
            cases k with
            | slice k => exact rdSl_gen I hrd hp hsub hx hv
            | int i => exact gen _ x ha hx
            | bool => exact gen _ x ha hx
            | str => exact gen _ x ha hx
            | _ => simp [K.agg] at ha)
          k _ _ _ _ (fun v hv id hid => hids id (by simp only [AV.ids]; exact ids_mem hv id hid)) hy hr
        simp only [rels] at h2
        subst h2
        simp only [List.append_nil] at e
        unfold VR
        rw [if_pos hk]
        exact ⟨c, rfl, by rw [e]; exact h1⟩
      · cases h
    · cases h
  · rename_i k' y
    split at h
    · rename_i e
      subst e
      simp only [castT_rfl, Option.some.injEq] at h
      subst h
      exact VR_mono (fun b hb => ⟨hrd b hb, rfl⟩) hv
    · cases h
  · rename_i h1 h2
    cases k with
    | slice k => exact slcase k x h
    | _ => simp at h
/-- A row that is not written any more is read. -/
theorem frozen_rd {ρ : Nat → Value} {a : Act} {w : World} (I : Inv C ρ s a w) {id : Nat} {r : Row} (hr : s.h id = some r) (hw : r.wr = false) {b : Nat} (hb : blk (ρ id) = some b) : Rd C s.h ρ w b := by
  have hlt := (I.rows id r hr).blk_lt hb
  refine ⟨hlt.2, .inr hlt.1, fun j r' hr' hw' hb' => ?_⟩
  have := I.inj id j r r' b hr hr' hb hb'
  subst this
  rw [hr] at hr'
  injection hr' with hr'
  subst hr'
  rw [hw] at hw'
  cases hw'
/-- Data whose rows are not written any more. -/
theorem toK_frozen {ρ : Nat → Value} {a : Act} {w : World} (I : Inv C ρ s a w) (hsub : ∀ id row, h' id = some row → s.h id = some row) {k : K} {v : AV} {x : T k} {u : Value}
    (hf : (v.ids.all fun i => frozen h' i) = true) (h : toK h' k v = some x) (hv : rel (envOf C ρ s.h w) v u) : RC w (Rd C s.h ρ w) k x u.cells.toList := by
  refine (VR_cells (toK_gen I (fun b hb => hb) (fun id hid r hr b hb => ?_) hsub h hv)).1
  have := List.all_eq_true.1 hf id hid
  unfold frozen at this
  split at this
  · rename_i r' hr'
    have := hsub _ _ hr'
    rw [hr] at this
    injection this with this
    subst this
    exact frozen_rd I hr (by simpa using ‹(!r.wr) = true›) hb
  · cases this
end Go.Proofs.Ytkgjchmfiohciaa.Den
