/- Shapes: a state is told again at a cut. -/
import Derived.Test.YtkgjchmfiohciaaDenS19
namespace Go.Proofs.Ytkgjchmfiohciaa.Den
open Go.RowKit
set_option linter.unusedVariables false
set_option linter.unusedSimpArgs false
variable {P : Program} {C : Cx}
section
variable {ρ : Nat → Value} {s : St} {a : Act} {w : World} {hs : List (Nat × RS)}
/-- The new telling: the rows of the list alone, as they are. -/
structure Newer (C : Cx) (ρ : Nat → Value) (s : St) (w : World) (hs : List (Nat × RS)) (h2 : Nat → Option Row) : Prop where
  from_ : ∀ i row, h2 i = some row → ∃ q ∈ hs, q.1 = i
  has : ∀ q ∈ hs, ∃ row, h2 q.1 = some row ∧ row.ver = 0 ∧ (q.2.isList = true → row.b.isList)
  wr : ∀ i row r, h2 i = some row → s.h i = some r → r.wr = true
  same : ∀ i row r, h2 i = some row → s.h i = some r → ∀ (k : K) (xs : List (T k)), r.b = .list k xs → row.b = .list k xs
def ρn (s : St) (ρ : Nat → Value) : Nat → Value := fun i => match s.h i with | some _ => ρ i | none => .slice none 0 0
theorem ρn_some {i : Nat} {r : Row} (h : s.h i = some r) : ρn s ρ i = ρ i := by simp [ρn, h]
theorem ρn_none {i : Nat} (h : s.h i = none) : ρn s ρ i = .slice none 0 0 := by simp [ρn, h]
theorem ρn_blk {i b : Nat} (h : blk (ρn s ρ i) = some b) : ∃ r, s.h i = some r ∧ blk (ρ i) = some b := by
  cases hi : s.h i with
  | none => rw [ρn_none hi] at h; simp [blk] at h
  | some r => rw [ρn_some hi] at h; exact ⟨r, rfl, h⟩
variable {h2 : Nat → Option Row}
theorem newer_rd (I : Inv C ρ s a w) (N : Newer C ρ s w hs h2) : ∀ b, Rd C s.h ρ w b → Rd C h2 (ρn s ρ) w b := by
  intro b ⟨h1, h3, h4⟩
  refine ⟨h1, h3, fun i row hr hw he => ?_⟩
  obtain ⟨r, hr2, hb⟩ := ρn_blk he
  exact h4 i r hr2 (N.wr i row r hr hr2) hb
theorem any_beq {i : Nat} (h : (hs.any fun q => Nat.beq q.1 i) = true) : ∃ q ∈ hs, q.1 = i := by
  obtain ⟨q, hq, hb⟩ := List.any_eq_true.1 h
  exact ⟨q, hq, Nat.eq_of_beq_eq_true hb⟩
theorem cs_ok (I : Inv C ρ s a w) (N : Newer C ρ s w hs h2) : ∀ {cs : List CS} {vs : List AV} {l : List PV} {us : List Value}, (∀ id off, CS.ad id off ∈ cs → (hs.any fun q => Nat.beq q.1 id) = true) → CS.of s.h cs vs = some l → rels (envOf C ρ s.h w) vs us → ∀ rest : List PV,
    (CS.mk cs (l ++ rest)).2 = rest ∧ rels (envOf C (ρn s ρ) h2 w) (CS.mk cs (l ++ rest)).1 us
  | [], [], l, us, hf, h, hv, rest => by
    simp only [CS.of, Option.some.injEq] at h
    subst h
    exact ⟨rfl, hv⟩
  | .fe k :: cs, v :: vs, l, us, hf, h, hv, rest => by
    simp only [CS.of] at h
    split at h
    · rename_i k' x
      split at h
      · split at h
        · rename_i l2 hl2
          simp only [Option.some.injEq] at h
          subst h
          obtain ⟨u, us', rfl, g1, g2⟩ := hv
          obtain ⟨e1, e2⟩ := cs_ok I N (fun id off hm => hf id off (List.mem_cons_of_mem _ hm)) hl2 g2 rest
          exact ⟨e1, u, us', rfl, FE_mono (fun b hb => ⟨newer_rd I N b hb, rfl⟩) g1, e2⟩
        · cases h
      · cases h
    · cases h
  | .ad id off :: cs, v :: vs, l, us, hf, h, hv, rest => by
    obtain ⟨q, hq, hqi⟩ := any_beq (hf id off (by simp))
    obtain ⟨row, h3, h4, h5⟩ := N.has q hq
    rw [hqi] at h3
    simp only [CS.of] at h
    split at h
    · rename_i id' ver off'
      split at h
      · rename_i hc
        obtain ⟨rfl, rfl⟩ := hc
        split at h
        · rename_i r hr
          split at h
          · rename_i hver
            subst hver
            obtain ⟨u, us', rfl, g1, g2⟩ := hv
            obtain ⟨e1, e2⟩ := cs_ok I N (fun id off hm => hf id off (List.mem_cons_of_mem _ hm)) h g2 rest
            obtain ⟨hp, row2, f1, f2, f3⟩ := g1
            have f1 : s.h id' = some row2 := f1
            rw [hr] at f1
            injection f1 with f1
            subst f1
            obtain ⟨b, f4, f5⟩ := f3 rfl
            exact ⟨e1, u, us', rfl, ⟨hp, row, h3, by omega, fun _ => ⟨b, by show ρn s ρ id' = _; rw [ρn_some hr]; exact f4, f5⟩⟩, e2⟩
          · cases h
        · cases h
      · cases h
    · cases h
  | [], _ :: _, l, us, hf, h, hv, rest => by simp [CS.of] at h
  | .fe _ :: _, [], l, us, hf, h, hv, rest => by simp [CS.of] at h
  | .ad _ _ :: _, [], l, us, hf, h, hv, rest => by simp [CS.of] at h
theorem cs_eats {h : Nat → Option Row} : ∀ {cs : List CS} {vs : List AV} {l : List PV}, CS.of h cs vs = some l → ∀ rest : List PV, (CS.mk cs (l ++ rest)).2 = rest
  | [], [], l, hh, rest => by
    simp only [CS.of, Option.some.injEq] at hh
    subst hh; rfl
  | .fe k :: cs, v :: vs, l, hh, rest => by
    simp only [CS.of] at hh
    split at hh
    · split at hh
      · split at hh
        · rename_i l2 hl2
          simp only [Option.some.injEq] at hh
          subst hh
          exact cs_eats hl2 rest
        · cases hh
      · cases hh
    · cases hh
  | .ad id off :: cs, v :: vs, l, hh, rest => by
    simp only [CS.of] at hh
    split at hh
    · split at hh
      · split at hh
        · split at hh
          · exact cs_eats (cs := cs) hh rest
          · cases hh
        · cases hh
      · cases hh
    · cases hh
  | [], _ :: _, l, hh, rest => by simp [CS.of] at hh
  | .fe _ :: _, [], l, hh, rest => by simp [CS.of] at hh
  | .ad _ _ :: _, [], l, hh, rest => by simp [CS.of] at hh
/-- Cells are read whole. -/
theorem unflat_rc (I : Inv C ρ s a w) {rd' : Nat → Prop} (hrd : ∀ b, Rd C s.h ρ w b → rd' b) {k : K} {cs : List AV} {x : T k} {us : List Value}
    (hids : ∀ id ∈ AV.idss cs, ∀ r, s.h id = some r → ∀ b, blk (ρ id) = some b → rd' b) (h : unflat s.h k cs = some (x, [])) (hv : rels (envOf C ρ s.h w) cs us) : RC w rd' k x us := by
  obtain ⟨a', b2, e, h1, h2, _⟩ := unflat_gen (R := envOf C ρ s.h w) (h0 := s.h) (w := w) (rd := rd') (p := fun v => ∀ id ∈ v.ids, ∀ r, s.h id = some r → ∀ b, blk (ρ id) = some b → rd' b)
    (fun k v x u ha hp hx hv => by
      have gen : ∀ (k : K) (x : T k), k.agg = false → asP k v = some x → RC w rd' k x [u] := by
        intro k x ha h
        unfold asP at h
        split at h
        · split at h
          · rename_i e
            subst e
            simp only [castT_rfl, Option.some.injEq] at h
            subst h
            have hv : VR w (Rd C s.h ρ w) _ _ u := hv
            have hv := VR_mono (w' := w) (rd' := rd') (fun b hb => ⟨hrd b hb, rfl⟩) hv
            unfold VR at hv
            rwa [if_neg (by simp [ha])] at hv
          · cases h
        · cases h
      cases k with
      | slice k => exact rdSl_gen I hrd hp (fun _ _ h => h) hx hv
      | int i => exact gen _ x ha hx
      | bool => exact gen _ x ha hx
      | str => exact gen _ x ha hx
      | _ => simp [K.agg] at ha)
    k _ _ _ _ (fun v hv id' hid => hids id' (ids_mem hv id' hid)) h hv
  simp only [rels] at h2
  subst h2
  simp only [List.append_nil] at e
  rw [e]; exact h1
theorem slot_ok (I : Inv C ρ s a w) (N : Newer C ρ s w hs h2) {sl : Slot} {v : AV} {l : List PV} {u : Value} (hf : sl.fits hs v = true) (h : sl.of s.h v = some l) (hv : rel (envOf C ρ s.h w) v u) (rest : List PV) :
    (sl.mk (l ++ rest)).2 = rest ∧ rel (envOf C (ρn s ρ) h2 w) (sl.mk (l ++ rest)).1 u := by
  have hrd := newer_rd I N
  cases sl with
  | p k =>
    simp only [Slot.of] at h
    split at h
    · rename_i x hx
      simp only [Option.some.injEq] at h
      subst h
      refine ⟨rfl, ?_⟩
      refine toK_gen (h' := s.h) I hrd (fun id hid r hr b hb => ?_) (fun _ _ h => h) hx hv
      have hlt := (I.rows id r hr).blk_lt hb
      refine ⟨hlt.2, .inr hlt.1, fun j row hj hw he => ?_⟩
      obtain ⟨r2, hr2, hb2⟩ := ρn_blk he
      have e := I.inj id j r r2 b hr hr2 hb hb2
      subst e
      obtain ⟨q, hq, hqi⟩ := N.from_ id row hj
      simp only [Slot.fits] at hf
      have := List.all_eq_true.1 hf id hid
      simp only [Bool.not_eq_true', List.any_eq_false] at this
      exact this q hq (by rw [hqi]; exact Nat.beq_refl id)
    · cases h
  | pc k =>
    simp only [Slot.of] at h
    split at h
    · rename_i k' x
      split at h
      · simp only [Option.some.injEq] at h
        subst h
        obtain ⟨A, rfl, hrc⟩ := hv
        exact ⟨rfl, A, rfl, RC_mono (fun b hb => ⟨hrd b hb, rfl⟩) hrc⟩
      · cases h
    · simp only [Option.some.injEq] at h
      subst h
      have hv : u = .slice none 0 0 := hv
      subst hv
      exact ⟨rfl, none, rfl, none, 0, [], rfl, Nat.le_refl _, rfl, fun h => absurd rfl h⟩
    · cases h
  | slw id fl =>
    simp only [Slot.fits] at hf
    obtain ⟨q, hq, hb⟩ := List.any_eq_true.1 hf
    simp only [Bool.and_eq_true] at hb
    have hqi : q.1 = id := Nat.eq_of_beq_eq_true hb.1
    obtain ⟨row, h3, h4, h5⟩ := N.has q hq
    rw [hqi] at h3
    simp only [Slot.of] at h
    split at h
    · rename_i id' ver fl'
      split at h
      · rename_i hc
        obtain ⟨rfl, hfl⟩ := hc
        split at h
        · rename_i rv ty k xs hr
          split at h
          · rename_i hver
            simp only [Option.some.injEq] at h
            subst h
            subst hver
            obtain ⟨hsf, row2, e1, e2, e3⟩ := hv
            have e1 : s.h id' = some row2 := e1
            rw [hr] at e1
            injection e1 with e1
            subst e1
            obtain ⟨_, e5⟩ := e3 rfl
            refine ⟨rfl, ?_, row, h3, by omega, fun _ => ⟨h5 hb.2, by show u = ρn s ρ id'; rw [ρn_some hr]; exact e5⟩⟩
            cases u <;> simp_all [isSlf]
            intro hh
            cases fl' <;> simp_all
          · cases h
        · cases h
      · cases h
    · split at h
      · rename_i hr
        simp only [Option.some.injEq] at h
        subst h
        have hv : u = .slice none 0 0 := hv
        subst hv
        exact ⟨rfl, fun _ => rfl, row, h3, by omega, fun _ => ⟨h5 hb.2, (ρn_none hr).symm⟩⟩
      · cases h
    · cases h
  | ad id off =>
    simp only [Slot.fits] at hf
    obtain ⟨q, hq, hqi⟩ := any_beq hf
    obtain ⟨row, h3, h4, h5⟩ := N.has q hq
    rw [hqi] at h3
    simp only [Slot.of] at h
    split at h
    · rename_i id' ver off'
      split at h
      · rename_i hc
        obtain ⟨rfl, rfl⟩ := hc
        split at h
        · rename_i r hr
          split at h
          · rename_i hver
            simp only [Option.some.injEq] at h
            subst h
            subst hver
            obtain ⟨hp, row2, e1, e2, e3⟩ := hv
            have e1 : s.h id' = some row2 := e1
            rw [hr] at e1
            injection e1 with e1
            subst e1
            obtain ⟨b, e4, e5⟩ := e3 rfl
            exact ⟨rfl, hp, row, h3, by omega, fun _ => ⟨b, by show ρn s ρ id' = _; rw [ρn_some hr]; exact e4, e5⟩⟩
          · cases h
        · cases h
      · cases h
    · cases h
  | fn f cs =>
    simp only [Slot.of] at h
    split at h
    · rename_i f' vs
      split at h
      · rename_i hf'
        subst hf'
        obtain ⟨c, hc, hr⟩ := hv
        obtain ⟨e1, e2⟩ := cs_ok I N (fun id off hm => by
          simp only [Slot.fits] at hf
          have := List.all_eq_true.1 hf _ hm
          exact this) h hr rest
        exact ⟨e1, c, hc, e2⟩
      · cases h
    · cases h
  | sl id =>
    simp only [Slot.fits] at hf
    obtain ⟨q, hq, hb⟩ := List.any_eq_true.1 hf
    simp only [Bool.and_eq_true] at hb
    have hqi : q.1 = id := Nat.eq_of_beq_eq_true hb.1
    obtain ⟨row, h3, h4, h5⟩ := N.has q hq
    rw [hqi] at h3
    simp only [Slot.of] at h
    split at h
    · rename_i id' ver off len
      split at h
      · rename_i hc
        subst hc
        split at h
        · rename_i rv ty k xs hr
          split at h
          · rename_i hver
            simp only [Option.some.injEq] at h
            subst h
            subst hver
            obtain ⟨hsf, row2, e1, e2, e3⟩ := hv
            have e1 : s.h id' = some row2 := e1
            rw [hr] at e1
            injection e1 with e1
            subst e1
            obtain ⟨g0, k2, xs2, A, cap, g1, g2, g3, g4, g5, g6⟩ := e3 rfl
            refine ⟨rfl, hsf, row, h3, by omega, fun _ => ⟨by show isSl (ρn s ρ id'); rw [ρn_some hr]; exact g0, k2, xs2, A, cap, N.same _ _ _ h3 hr k2 xs2 g1, ?_, ?_, ?_, ?_, ?_⟩⟩
            · simpa [toNatPV] using g2
            · simpa [toNatPV] using g3
            · simpa [toNatPV] using g4
            · show _ → ∃ b, blk (ρn s ρ id') = some b ∧ _
              rw [ρn_some hr]
              simpa [toNatPV] using g5
            · show _ → ∀ A' n c, ρn s ρ id' = _ → _
              rw [ρn_some hr]
              simpa [toNatPV] using g6
          · cases h
        · cases h
      · cases h
    · cases h
  | fe k =>
    simp only [Slot.of] at h
    split at h
    · rename_i k' x
      split at h
      · simp only [Option.some.injEq] at h
        subst h
        exact ⟨rfl, FE_mono (fun b hb => ⟨hrd b hb, rfl⟩) hv⟩
      · cases h
    · cases h
  | rw id =>
    simp only [Slot.fits] at hf
    obtain ⟨q, hq, hqi⟩ := any_beq hf
    obtain ⟨row, h3, h4, h5⟩ := N.has q hq
    rw [hqi] at h3
    simp only [Slot.of] at h
    split at h
    · rename_i id' ver
      split at h
      · rename_i hc
        subst hc
        split at h
        · rename_i r hr
          split at h
          · rename_i hver
            simp only [Option.some.injEq] at h
            subst h
            subst hver
            obtain ⟨row2, e1, e2, e3⟩ := hv
            have e1 : s.h id' = some row2 := e1
            rw [hr] at e1
            injection e1 with e1
            subst e1
            exact ⟨rfl, row, h3, by omega, fun _ => by show u = ρn s ρ id'; rw [ρn_some hr]; exact e3 rfl⟩
          · cases h
        · cases h
      · cases h
    · cases h
theorem slots_ok (I : Inv C ρ s a w) (N : Newer C ρ s w hs h2) : ∀ {ss : List Slot} {vs : List AV} {l : List PV} {us : List Value}, Slot.ofs hs s.h ss vs = some l → rels (envOf C ρ s.h w) vs us → ∀ rest : List PV,
    (Slot.mks ss (l ++ rest)).2 = rest ∧ rels (envOf C (ρn s ρ) h2 w) (Slot.mks ss (l ++ rest)).1 us
  | [], [], l, us, h, hv, rest => by
    simp only [Slot.ofs, Option.some.injEq] at h
    subst h
    exact ⟨rfl, hv⟩
  | sl :: ss, v :: vs, l, us, h, hv, rest => by
    simp only [Slot.ofs] at h
    split at h
    · rename_i hf
      split at h
      · rename_i l1 h1
        split at h
        · rename_i l2 h2'
          simp only [Option.some.injEq] at h
          subst h
          obtain ⟨u, us', rfl, hr1, hr2⟩ := hv
          rw [List.append_assoc]
          obtain ⟨e1, e2⟩ := slot_ok I N hf h1 hr1 (l2 ++ rest)
          obtain ⟨e3, e4⟩ := slots_ok I N h2' hr2 rest
          simp only [Slot.mks]
          rw [e1]
          exact ⟨e3, u, us', rfl, e2, e4⟩
        · cases h
      · cases h
    · cases h
  | [], _ :: _, l, us, h, hv, rest => by simp [Slot.ofs] at h
  | _ :: _, [], l, us, h, hv, rest => by simp [Slot.ofs] at h
theorem gatherT_ok (I : Inv C ρ s a w) (N : Newer C ρ s w hs h2) : ∀ {ts : List (Nat × Slot)} {l : List PV}, gatherT hs s ts = some l → ∀ rest : List PV,
    (mkT ts (l ++ rest)).2 = rest ∧ ∀ i, rel (envOf C (ρn s ρ) h2 w) ((mkT ts (l ++ rest)).1 i) (C.tv a i)
  | [], l, h, rest => by
    simp only [gatherT, Option.some.injEq] at h
    subst h
    exact ⟨rfl, fun i => trivial⟩
  | (i, sl) :: ts, l, h, rest => by
    simp only [gatherT] at h
    split at h
    · rename_i hf
      split at h
      · rename_i l1 h1
        split at h
        · rename_i l2 h2'
          simp only [Option.some.injEq] at h
          subst h
          rw [List.append_assoc]
          obtain ⟨e1, e2⟩ := slot_ok I N hf h1 (I.tm i) (l2 ++ rest)
          obtain ⟨e3, e4⟩ := gatherT_ok I N h2' rest
          simp only [mkT]
          rw [e1]
          refine ⟨e3, fun j => ?_⟩
          by_cases e : j = i
          · subst e; rw [upd_same]; exact e2
          · rw [upd_other _ _ e]; exact e4 j
        · cases h
      · cases h
    · cases h
theorem slot_eats {sl : Slot} {v : AV} {l : List PV} {h : Nat → Option Row} (hh : sl.of h v = some l) (rest : List PV) : (sl.mk (l ++ rest)).2 = rest := by
  cases sl with
  | p k =>
    simp only [Slot.of] at hh
    split at hh
    · simp only [Option.some.injEq] at hh; subst hh; rfl
    · cases hh
  | pc k =>
    simp only [Slot.of] at hh
    split at hh
    · split at hh
      · simp only [Option.some.injEq] at hh; subst hh; rfl
      · cases hh
    · simp only [Option.some.injEq] at hh; subst hh; rfl
    · cases hh
  | slw id fl =>
    have : l = [] := by
      simp only [Slot.of] at hh
      split at hh
      · split at hh
        · split at hh
          · split at hh
            · simp only [Option.some.injEq] at hh; exact hh.symm
            · cases hh
          · cases hh
        · cases hh
      · split at hh
        · simp only [Option.some.injEq] at hh; exact hh.symm
        · cases hh
      · cases hh
    subst this; rfl
  | ad id off =>
    have : l = [] := by
      simp only [Slot.of] at hh
      split at hh
      · split at hh
        · split at hh
          · split at hh
            · simp only [Option.some.injEq] at hh; exact hh.symm
            · cases hh
          · cases hh
        · cases hh
      · cases hh
    subst this; rfl
  | fn f cs =>
    simp only [Slot.of] at hh
    split at hh
    · split at hh
      · exact cs_eats hh rest
      · cases hh
    · cases hh
  | sl id =>
    simp only [Slot.of] at hh
    split at hh
    · split at hh
      · split at hh
        · split at hh
          · simp only [Option.some.injEq] at hh; subst hh; rfl
          · cases hh
        · cases hh
      · cases hh
    · cases hh
  | fe k =>
    simp only [Slot.of] at hh
    split at hh
    · split at hh
      · simp only [Option.some.injEq] at hh; subst hh; rfl
      · cases hh
    · cases hh
  | rw id =>
    have : l = [] := by
      simp only [Slot.of] at hh
      split at hh
      · split at hh
        · split at hh
          · split at hh
            · simp only [Option.some.injEq] at hh; exact hh.symm
            · cases hh
          · cases hh
        · cases hh
      · cases hh
    subst this; rfl
theorem slots_eat {h : Nat → Option Row} : ∀ {ss : List Slot} {vs : List AV} {l : List PV}, Slot.ofs hs h ss vs = some l → ∀ rest : List PV, (Slot.mks ss (l ++ rest)).2 = rest
  | [], [], l, hh, rest => by
    simp only [Slot.ofs, Option.some.injEq] at hh
    subst hh; rfl
  | sl :: ss, v :: vs, l, hh, rest => by
    simp only [Slot.ofs] at hh
    split at hh
    · split at hh
      · rename_i l1 h1
        split at hh
        · rename_i l2 h2'
          simp only [Option.some.injEq] at hh
          subst hh
          rw [List.append_assoc]
          simp only [Slot.mks]
          rw [slot_eats h1]
          exact slots_eat h2' rest
        · cases hh
      · cases hh
    · cases hh
  | [], _ :: _, l, hh, rest => by simp [Slot.ofs] at hh
  | _ :: _, [], l, hh, rest => by simp [Slot.ofs] at hh
/-- How a row is told anew. -/
theorem RS_of {r : RS} {i : Nat} {l : List PV} {h : Nat → Option Row} (hh : r.of hs h i = some l) (rest : List PV) :
    (r.mk (l ++ rest)).2 = rest ∧ ∃ row, (r.mk (l ++ rest)).1 = some row ∧ row.ver = 0 ∧ row.wr = true ∧ (r.isList = true → row.b.isList) ∧ (∀ r0, h i = some r0 → r0.wr = true) ∧
      ((∃ ty k xs, row = ⟨0, true, ty, .list k xs⟩ ∧ ((h i = none ∧ xs = []) ∨ ∃ v, h i = some ⟨v, true, ty, .list k xs⟩)) ∨
       (∃ ty ss cs v, row = ⟨0, true, ty, .cells (Slot.mks ss (l ++ rest)).1⟩ ∧ h i = some ⟨v, true, ty, .cells cs⟩ ∧ Slot.ofs hs h ss cs = some l) ∨
       (∃ ty k x cs v, row = ⟨0, true, ty, .cells (flat k x)⟩ ∧ h i = some ⟨v, true, ty, .cells cs⟩ ∧ ((AV.idss cs).all fun i => !(hs.any fun q => Nat.beq q.1 i)) = true ∧ unflat h k cs = some (x, []))) := by
  cases r with
  | list ty k =>
    simp only [RS.of] at hh
    split at hh
    · rename_i v ty' k' xs hr
      split at hh
      · rename_i hc
        obtain ⟨rfl, rfl⟩ := hc
        simp only [Option.some.injEq] at hh
        subst hh
        refine ⟨rfl, _, rfl, rfl, rfl, fun _ => trivial, fun r0 h0 => ?_, .inl ⟨ty', k', xs, rfl, .inr ⟨v, hr⟩⟩⟩
        rw [hr] at h0; injection h0 with h0; subst h0; rfl
      · cases hh
    · rename_i hr
      simp only [Option.some.injEq] at hh
      subst hh
      refine ⟨rfl, _, rfl, rfl, rfl, fun _ => trivial, fun r0 h0 => ?_, .inl ⟨ty, k, [], rfl, .inl ⟨hr, rfl⟩⟩⟩
      rw [hr] at h0; cases h0
    · cases hh
  | cells ty ss =>
    simp only [RS.of] at hh
    split at hh
    · rename_i v ty' cs hr
      split at hh
      · rename_i hc
        subst hc
        refine ⟨slots_eat hh rest, _, rfl, rfl, rfl, fun h => by simp [RS.isList] at h, fun r0 h0 => ?_, .inr (.inl ⟨ty', ss, cs, v, rfl, hr, hh⟩)⟩
        rw [hr] at h0; injection h0 with h0; subst h0; rfl
      · cases hh
    · cases hh
  | agg ty k =>
    simp only [RS.of] at hh
    split at hh
    · rename_i v ty' cs hr
      split at hh
      · rename_i hc
        obtain ⟨rfl, hids⟩ := hc
        split at hh
        · rename_i x hx
          simp only [Option.some.injEq] at hh
          subst hh
          refine ⟨rfl, _, rfl, rfl, rfl, fun h => by simp [RS.isList] at h, fun r0 h0 => ?_, .inr (.inr ⟨ty', k, x, cs, v, rfl, hr, hids, hx⟩)⟩
          rw [hr] at h0; injection h0 with h0; subst h0; rfl
        · cases hh
      · cases hh
    · cases hh
/-- What the rows are made of. -/
theorem gatherH_newer : ∀ {ts : List (Nat × RS)} {l : List PV}, gatherH hs s.h ts = some l → ∀ rest : List PV,
    (∀ i row, mkH ts (l ++ rest) i = some row → ∃ q ∈ ts, q.1 = i ∧ ∃ l1 l2, q.2.of hs s.h i = some l1 ∧ (q.2.mk (l1 ++ l2)).1 = some row) ∧ (∀ q ∈ ts, ∃ row, mkH ts (l ++ rest) q.1 = some row)
  | [], l, h, rest => ⟨fun i row hr => by simp [mkH] at hr, fun q hq => by simp at hq⟩
  | (i, r) :: ts, l, h, rest => by
    simp only [gatherH] at h
    split at h
    · rename_i l1 h1
      split at h
      · rename_i l2 h2'
        simp only [Option.some.injEq] at h
        subst h
        obtain ⟨e1, row0, e2, _⟩ := RS_of h1 (l2 ++ rest)
        obtain ⟨f1, f2⟩ := gatherH_newer h2' rest
        rw [List.append_assoc]
        simp only [mkH]
        rw [e1]
        refine ⟨fun j row hr => ?_, fun q hq => ?_⟩
        · by_cases e : j = i
          · subst e
            rw [upd_same] at hr
            exact ⟨(j, r), by simp, rfl, l1, l2 ++ rest, h1, hr⟩
          · rw [upd_other _ _ e] at hr
            obtain ⟨q, hq, hqi, hx⟩ := f1 j row hr
            exact ⟨q, List.mem_cons_of_mem _ hq, hqi, hx⟩
        · by_cases e : q.1 = i
          · rw [e, upd_same, e2]; exact ⟨_, rfl⟩
          · rw [upd_other _ _ e]
            rcases List.mem_cons.1 hq with rfl | hq
            · exact absurd rfl e
            · exact f2 q hq
      · cases h
    · cases h
end
theorem ListNodup {hs : List (Nat × RS)} (h : nodup (hs.map (·.1)) = true) : ∀ {q q' : Nat × RS}, q ∈ hs → q' ∈ hs → q.1 = q'.1 → q = q' := by
  induction hs with
  | nil => intro q q' h1; simp at h1
  | cons x xs ih =>
    intro q q' h1 h2 h3
    simp only [List.map_cons, nodup, Bool.and_eq_true, Bool.not_eq_true'] at h
    obtain ⟨h4, h5⟩ := h
    have hn : ∀ y ∈ xs, y.1 ≠ x.1 := by
      intro y hy e
      have : x.1 ∈ xs.map (·.1) := List.mem_map.2 ⟨y, hy, e⟩
      simp at h4
      obtain ⟨a, b⟩ := y
      exact h4 b (by simp only at e; rw [← e]; exact hy)
    rcases List.mem_cons.1 h1 with e1 | m1 <;> rcases List.mem_cons.1 h2 with e2 | m2
    · rw [e1, e2]
    · exact absurd (by rw [← h3, e1]) (hn q' m2)
    · exact absurd (by rw [h3, e2]) (hn q m1)
    · exact ih h5 m1 m2 h3
/-- A state is told anew. -/
theorem shape_ok {σ : Shape} {s : St} {ρ : Nat → Value} {a : Act} {w : World} {v : Leafs σ.ks} (I : Inv C ρ s a w) (h : σ.of s = some v) : ∃ ρ', Inv C ρ' (σ.st v) a w := by
  unfold Shape.of at h
  split at h
  rotate_left
  · cases h
  rename_i l l' h1 h2
  split at h
  rotate_left
  · cases h
  rename_i hnd
  have hul := leafs_unL h
  have g := gatherH_newer (s := s) h2 []
  rw [List.append_nil] at g
  obtain ⟨g1, g2⟩ := g
  have N : Newer C ρ s w σ.h (mkH σ.h l') := by
    refine ⟨fun i row hr => ?_, fun q hq => ?_, fun i row r hr hs => ?_, fun i row r hr hs k xs hb => ?_⟩
    · obtain ⟨q, hq, hqi, _⟩ := g1 i row hr
      exact ⟨q, hq, hqi⟩
    · obtain ⟨row, hr⟩ := g2 q hq
      obtain ⟨q', hq', hqi, l1, l2, e1, e2⟩ := g1 q.1 row hr
      have := ListNodup hnd hq' hq hqi
      subst this
      obtain ⟨_, row', e3, e4, e5, e6, _⟩ := RS_of e1 l2
      rw [e2] at e3
      injection e3 with e3
      subst e3
      exact ⟨row, hr, e4, e6⟩
    · obtain ⟨q, hq, hqi, l1, l2, e1, e2⟩ := g1 i row hr
      obtain ⟨_, row', e3, e4, e5, e6, e7, _⟩ := RS_of e1 l2
      exact e7 r hs
    · obtain ⟨q, hq, hqi, l1, l2, e1, e2⟩ := g1 i row hr
      obtain ⟨_, row', e3, e4, e5, e6, e7, e8⟩ := RS_of e1 l2
      rw [e2] at e3
      injection e3 with e3
      subst e3
      rcases e8 with ⟨ty, k, xs, rfl, ⟨hn, rfl⟩ | ⟨vv, hs'⟩⟩ | ⟨ty, ss, cs, vv, rfl, hs', hofs⟩ | ⟨ty, k, x, cs, vv, rfl, hs', _, _⟩
      · rw [hs] at hn; cases hn
      · rw [hs] at hs'; injection hs' with hs'; rw [hs'] at hb; exact hb
      · rw [hs] at hs'; injection hs' with hs'; rw [hs'] at hb; cases hb
      · rw [hs] at hs'; injection hs' with hs'; rw [hs'] at hb; cases hb
  have gt := gatherT_ok (a := a) I N h1 l'
  have hst : σ.st v = ⟨(mkT σ.t (l ++ l')).1, mkH σ.h l'⟩ := by
    unfold Shape.st
    rw [hul, gt.1]
  have hrd := newer_rd I N
  refine ⟨ρn s ρ, ?_⟩
  rw [hst]
  refine ⟨I.hd, I.sz, I.fr, fun i row hr => ?_, fun i j r r' b hr hr' hb hb' => ?_, gt.2⟩
  · have hr : mkH σ.h l' i = some row := hr
    obtain ⟨q, hq, hqi, l1, l2, e1, e2⟩ := g1 i row hr
    obtain ⟨_, row', e3, e4, e5, e6, e7, e8⟩ := RS_of e1 l2
    rw [e2] at e3
    injection e3 with e3
    subst e3
    rcases e8 with ⟨ty, k, xs, rfl, ⟨hn, rfl⟩ | ⟨vv, hs⟩⟩ | ⟨ty, ss, cs, vv, rfl, hs, hofs⟩ | ⟨ty, k, x, cs, vv, rfl, hs, hids, hx⟩
    · rw [ρn_none hn]
      exact ⟨[], ⟨by simp, .inl ⟨rfl, rfl⟩⟩, rfl, fun h => by cases h⟩
    · rw [ρn_some hs]
      obtain ⟨vals, ho, hl, _⟩ := I.rows i _ hs
      exact ⟨vals, ho, RL_imp (fun x c hx => RC_mono (fun b hb => ⟨hrd b hb, rfl⟩) hx) hl, fun h => by cases h⟩
    · rw [ρn_some hs]
      obtain ⟨b, c, f1, f2, f3, f4⟩ := I.rows i _ hs
      exact ⟨b, c, f1, f2, f3, (slots_ok I N hofs f4 l2).2⟩
    · rw [ρn_some hs]
      obtain ⟨b, c, f1, f2, f3, f4⟩ := I.rows i _ hs
      refine ⟨b, c, f1, f2, f3, flat_ok _ _ _ (unflat_rc I hrd (fun id hid r hr2 b hb => ?_) hx f4)⟩
      have hlt := (I.rows id r hr2).blk_lt hb
      refine ⟨hlt.2, .inr hlt.1, fun j row hj hw he => ?_⟩
      obtain ⟨r2, hr3, hb2⟩ := ρn_blk he
      have e := I.inj id j r r2 b hr2 hr3 hb hb2
      subst e
      obtain ⟨q, hq, hqi⟩ := N.from_ id row hj
      have := List.all_eq_true.1 hids id hid
      simp only [Bool.not_eq_true', List.any_eq_false] at this
      exact this q hq (by rw [hqi]; exact Nat.beq_refl id)
  · obtain ⟨r1, h3, h4⟩ := ρn_blk hb
    obtain ⟨r2, h5, h6⟩ := ρn_blk hb'
    exact I.inj i j r1 r2 b h3 h5 h4 h6
end Go.Proofs.Ytkgjchmfiohciaa.Den
