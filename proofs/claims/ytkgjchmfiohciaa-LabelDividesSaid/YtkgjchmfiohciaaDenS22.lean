/- Functions. -/
import Derived.Test.YtkgjchmfiohciaaDenS21
namespace Go.Proofs.Ytkgjchmfiohciaa.Den
open Go.RowKit
set_option linter.unusedVariables false
set_option linter.unusedSimpArgs false
variable {P : Program} {C : Cx} {outs : List RM} {e : Env outs}
def resRun (a : Act) : ResultVar → Sem Value
  | .tmp t => pure (a.tmps.getD t undef)
  | .cell x t => do loadVar t (← asAddr (a.tmps.getD x undef))
/-- One result, as it is read. -/
theorem resAV_run (hτ : TauOK P e.τ) {ρ : Nat → Value} {s : St} {a : Act} {w : World} (I : Inv C ρ s a w) {r : ResultVar} (hA : lenG1 e s r ≠ some false) (hne : resAV e s r ≠ .u) :
    ∃ u, (resRun a r).run P w = .ok u w ∧ rel (envOf C ρ s.h w) (resAV e s r) u := by
  cases r with
  | tmp t => exact ⟨_, rfl, I.ev (.tmp t)⟩
  | cell x t =>
    simp only [resAV] at hne ⊢
    simp only [lenG1] at hA
    split at hne
    rotate_left
    · exact absurd rfl hne
    rename_i id ver off ty hx ht
    simp only [hx, ht] at hA
    have hty := hτ t ty ht
    obtain ⟨i, z, hi, hz, _, hsz, _⟩ := hty.i
    have hv : rel (envOf C ρ s.h w) (s.ev (.tmp x)) (a.tmps.getD x undef) := I.ev (.tmp x)
    rw [hx] at hv
    obtain ⟨_, row, e1, e2, e3⟩ := hv
    have e1 : s.h id = some row := e1
    split at hne
    rotate_left
    · rename_i rv wr rt k xs hrow
      simp only [hrow] at hA
      split at hne
      rotate_left
      · exact absurd rfl hne
      rename_i n k' hk
      split at hne
      rotate_left
      · exact absurd rfl hne
      rename_i hc
      obtain ⟨rfl, rfl⟩ := hc
      simp only [hk] at hA
      have hlen : xs.length = n := by
        by_cases e : (xs.length : Int) = n
        · omega
        · exact absurd (by rw [decide_eq_false e]) hA
      rw [hrow] at e1
      injection e1 with e1
      subst e1
      obtain ⟨b, e40, e5⟩ := e3 rfl
      have e40 : ρ id = .pointer (some ⟨b, 0, none⟩) := e40
      have e4 : blk (ρ id) = some b := by rw [e40]; rfl
      obtain ⟨vals, g3, g4, g5, g6, _⟩ := row_reads I hrow
      have hat := (g6 b e4).1
      have hrc : RC w (Rd C s.h ρ w) (.arr n k') xs vals := ⟨hlen, g3⟩
      have hagg : ty.k.agg = true := by rw [hk]; rfl
      have hi5 : a.tmps.getD x undef = .pointer (some ⟨b, 0, none⟩) := e5
      refine ⟨.agg vals.toArray, ?_, ?_⟩
      · simp only [resRun, hi5, asAddr, Sem.run_bind, Sem.run_pure, Result.andThen_ok, loadVar, run_isAgg hty, hagg, if_true, run_sizeOf hi]
        rw [hsz]
        have := run_loadCells_list (P := P) w ⟨b, 0, none⟩ vals (fun j v hj => by rw [addr_add]; exact hat j v hj)
        rw [RC_len hrc, ← hk] at this
        rw [this]
        rfl
      · rw [if_pos ⟨rfl, rfl⟩]
        show VR _ _ _ _ _
        unfold VR
        rw [if_pos (by rfl)]
        exact ⟨_, rfl, by simpa using hrc⟩
    · exact absurd rfl hne
    rename_i rv wr rt cs hrow
    split at hne
    rotate_left
    · exact absurd rfl hne
    rename_i hc
    obtain ⟨rfl, hle⟩ := hc
    rw [hrow] at e1
    injection e1 with e1
    subst e1
    obtain ⟨b, e4, e5⟩ := e3 rfl
    obtain ⟨b', c, g1, g2, g3, g4⟩ := I.rows id _ hrow
    have e4 : ρ id = .pointer (some ⟨b, 0, none⟩) := e4
    rw [g1] at e4
    simp only [Value.pointer.injEq, Option.some.injEq, Addr.mk.injEq, and_true] at e4
    subst e4
    have hlen := rels_len g4
    have hrel := rels_take ty.k.cells (rels_drop off g4)
    have hl : ((c.toList.drop off).take ty.k.cells).length = ty.k.cells := by rw [List.length_take, List.length_drop]; omega
    have hat : At w b' off ((c.toList.drop off).take ty.k.cells) := by
      intro j u hu
      rw [cell_of_row w b' _ c _ _ g3]
      have hj : j < ty.k.cells := by
        have := (List.getElem?_eq_some_iff.1 hu).1
        rw [hl] at this; exact this
      rw [List.getElem?_take, if_pos hj, List.getElem?_drop] at hu
      simpa using hu
    have hi5 : a.tmps.getD x undef = .pointer (some ⟨b', off, none⟩) := e5
    rw [if_pos ⟨rfl, hle⟩]
    cases hagg : ty.k.agg with
    | true =>
      refine ⟨.agg ((c.toList.drop off).take ty.k.cells).toArray, ?_, ?_⟩
      · simp only [resRun, hi5, asAddr, Sem.run_bind, Sem.run_pure, Result.andThen_ok, loadVar, run_isAgg hty, hagg, if_true, run_sizeOf hi]
        rw [hsz]
        have := run_loadCells_list (P := P) w ⟨b', off, none⟩ ((c.toList.drop off).take ty.k.cells) (fun j v hj => by rw [addr_add]; exact hat j v hj)
        rw [hl] at this
        rw [this]
        rfl
      · rw [if_pos rfl]
        exact ⟨_, rfl, by simpa using hrel⟩
    | false =>
      rw [cells_one hagg] at hl hat hrel
      obtain ⟨v, hv⟩ := List.length_eq_one_iff.1 hl
      rw [hv] at hat hrel
      have := hat 0 v rfl
      simp only [Nat.add_zero] at this
      refine ⟨v, ?_, ?_⟩
      · simp [resRun, hi5, asAddr, loadVar, run_isAgg hty, hagg, run_load, this]
      · rw [if_neg (by simp)]
        have ho : off < cs.length := by rw [cells_one hagg] at hle; omega
        obtain ⟨u', hu1, hu2⟩ := rels_get (i := 0) (a := cs[off]) hrel (by rw [List.getElem?_take]; simp [ho])
        simp at hu1
        subst hu1
        rw [List.getElem?_eq_getElem ho]
        exact hu2
theorem rebase {w : World} {base : Nat} {e : TypeId} {size : Nat} {v : Value} {n : Nat} {xs : List Value} (h : w.ownsRow 0 e size v n xs) (hb : ∀ b, blk v = some b → base ≤ b) : w.ownsRow base e size v n xs := by
  refine ⟨h.1, ?_⟩
  rcases h.2 with h | ⟨g, cap, cur, h1, h2, h3⟩
  · exact .inl h
  · exact .inr ⟨g, cap, cur, h1, hb g (by rw [h1]; rfl), h3⟩
theorem toK_u (h : Nat → Option Row) (k : K) : toK h k .u = none := by cases k <;> rfl
theorem nodup_spec : ∀ {l : List Nat}, nodup l = true → l.Nodup
  | [], _ => List.nodup_nil
  | i :: l, h => by
    simp only [nodup, Bool.and_eq_true, Bool.not_eq_true'] at h
    refine List.nodup_cons.2 ⟨fun hm => ?_, nodup_spec h.2⟩
    have : l.contains i = true := by simpa using hm
    rw [this] at h; cases h.1
/-- The rows that are handed over, and those that were handed in. -/
def ownIds {outs : List RM} (e : Env outs) (s : St) : List RM → List ResultVar → List Nat
  | .b _ _ _ :: ms, rs | .r _ _ _ :: ms, rs => ownIds e s ms rs
  | .o _ _ _ :: ms, r :: rs => (resAV e s r).ids ++ ownIds e s ms rs
  | _ :: ms, _ :: rs => ownIds e s ms rs
  | _, _ => []
def inIds (s : St) : List RM → List Nat
  | .b j _ _ :: ms | .r j _ _ :: ms => (s.t (5000000 + j)).ids ++ inIds s ms
  | _ :: ms => inIds s ms
  | [] => []
def IoV (ios : Nat → Option Value) (L : List (Nat × Bool × Nat × K)) : Prop := ∀ p ∈ L, ∃ v, ios p.1 = some v ∧ (p.2.1 = false → isSl v)
theorem own_sub {s : St} {O : List Nat} : ∀ (ms : List RM) (rs : List ResultVar) (l : List PV), resE e s O ms rs = some l → (∀ i ∈ ownIds e s ms rs, i ∈ outIds e s ms rs) ∧ (∀ i ∈ inIds s ms, i ∈ outIds e s ms rs) ∧ ((outIds e s ms rs).Nodup → ∀ i ∈ ownIds e s ms rs, i ∉ inIds s ms)
  | [], rs, l, h => by
    refine ⟨fun i hi => ?_, fun i hi => by simp [inIds] at hi, fun _ i hi => ?_⟩ <;> cases rs <;> simp [ownIds] at hi
  | .b j ty k :: ms, rs, l, h => by
    simp only [resE] at h
    split at h
    · cases h
    · rename_i l' hl'
      obtain ⟨h1, h2, h3⟩ := own_sub ms rs l' hl'
      refine ⟨fun i hi => by simp only [outIds, List.mem_append]; exact .inr (h1 i (by simpa [ownIds] using hi)), fun i hi => ?_, fun hn i hi hm => ?_⟩
      · simp only [inIds, outIds, List.mem_append] at hi ⊢
        exact hi.imp (fun h => h) (h2 i)
      · simp only [outIds] at hn
        obtain ⟨n1, n2, n3⟩ := List.nodup_append.1 hn
        simp only [ownIds] at hi
        simp only [inIds, List.mem_append] at hm
        rcases hm with hm | hm
        · exact n3 i hm i (h1 i hi) rfl
        · exact h3 n2 i hi hm
  | .r j ty k :: ms, rs, l, h => by
    simp only [resE] at h
    split at h
    · cases h
    · rename_i l' hl'
      obtain ⟨h1, h2, h3⟩ := own_sub ms rs l' hl'
      refine ⟨fun i hi => by simp only [outIds, List.mem_append]; exact .inr (h1 i (by simpa [ownIds] using hi)), fun i hi => ?_, fun hn i hi hm => ?_⟩
      · simp only [inIds, outIds, List.mem_append] at hi ⊢
        exact hi.imp (fun h => h) (h2 i)
      · simp only [outIds] at hn
        obtain ⟨n1, n2, n3⟩ := List.nodup_append.1 hn
        simp only [ownIds] at hi
        simp only [inIds, List.mem_append] at hm
        rcases hm with hm | hm
        · exact n3 i hm i (h1 i hi) rfl
        · exact h3 n2 i hi hm
  | .v k :: ms, [], l, h => by simp [resE] at h
  | .c k :: ms, [], l, h => by simp [resE] at h
  | .o ty k fl :: ms, [], l, h => by simp [resE] at h
  | .v k :: ms, r :: rs, l, h => by
    simp only [resE] at h
    split at h
    · cases h
    · rename_i l' hl'
      simpa only [ownIds, outIds, inIds] using own_sub ms rs l' hl'
  | .c k :: ms, r :: rs, l, h => by
    simp only [resE] at h
    split at h
    · cases h
    · rename_i l' hl'
      simpa only [ownIds, outIds, inIds] using own_sub ms rs l' hl'
  | .o ty k fl :: ms, r :: rs, l, h => by
    simp only [resE] at h
    split at h
    · cases h
    · rename_i l' hl'
      obtain ⟨h1, h2, h3⟩ := own_sub ms rs l' hl'
      refine ⟨fun i hi => ?_, fun i hi => by simp only [outIds, List.mem_append]; exact .inr (h2 i (by simpa [inIds] using hi)), fun hn i hi hm => ?_⟩
      · simp only [ownIds, outIds, List.mem_append] at hi ⊢
        exact hi.imp (fun h => h) (h1 i)
      · simp only [outIds] at hn
        obtain ⟨n1, n2, n3⟩ := List.nodup_append.1 hn
        simp only [inIds] at hm
        simp only [ownIds, List.mem_append] at hi
        rcases hi with hi | hi
        · exact n3 i hi i (h2 i hm) rfl
        · exact h3 n2 i hi hm
/-- The results, as they are handed back. -/
theorem resE_ok (hτ : TauOK P e.τ) {ρ : Nat → Value} {s : St} {a : Act} {w : World} (I : Inv C ρ s a w) {O : List Nat} {rd : Nat → Prop}
    {ios : Nat → Option Value} (hvt : ∀ j, C.vt (5000000 + j) = ios j)
    (hrd : ∀ b, Rd C s.h ρ w b → rd b) (hids : ∀ id, id ∉ O → ∀ r, s.h id = some r → ∀ b, blk (ρ id) = some b → rd b) :
    ∀ (ms : List RM) (rs : List ResultVar) (l : List PV), resE e s O ms rs = some l → (∀ r ∈ rs, lenG1 e s r ≠ some false) → (∀ i ∈ outIds e s ms rs, i ∈ O) → IoV ios (ioOuts ms) → (∀ id ∈ ownIds e s ms rs, ∀ r, s.h id = some r → ∀ b, blk (ρ id) = some b → C.w0.heap.size ≤ b) →
    ∃ vs bs, (rs.mapM (resRun a)).run P w = .ok vs w ∧ ResRel w C.w0.heap.size rd ios ms l vs bs ∧ vs.length = rs.length ∧
      (∀ b ∈ bs, ∃ i ∈ outIds e s ms rs, (∃ r, s.h i = some r ∧ r.wr = true) ∧ blk (ρ i) = some b) ∧ ((outIds e s ms rs).Nodup → bs.Nodup)
  | [], [], l, h, hA, hO, _, _ => by
    simp only [resE, Option.some.injEq] at h
    subst h
    exact ⟨[], [], by simp, ⟨rfl, rfl⟩, rfl, fun b hb => by simp at hb, fun _ => List.nodup_nil⟩
  | [], _ :: _, l, h, hA, hO, _, _ => by simp [resE] at h
  | .v _ :: _, [], l, h, hA, hO, _, _ => by simp [resE] at h
  | .c _ :: _, [], l, h, hA, hO, _, _ => by simp [resE] at h
  | .o _ _ _ :: _, [], l, h, hA, hO, _, _ => by simp [resE] at h
  | .b j ty k :: ms, rs, l, h, hA, hO, hV, hB => by
    simp only [resE] at h
    split at h
    · cases h
    · rename_i l' hl'
      obtain ⟨vs, bs, h1, h2, h3, h4, h5⟩ := resE_ok hτ I hvt hrd hids ms rs l' hl' hA (fun i hi => hO i (by simp only [outIds, List.mem_append]; exact .inr hi)) (fun p hp => hV p (List.mem_cons_of_mem _ hp)) (fun id hid => hB id (by simpa [ownIds] using hid))
      split at h
      rotate_left
      · cases h
      rename_i id ver hrw
      split at h
      rotate_left
      · cases h
      rename_i rv ty' cs hrow
      split at h
      rotate_left
      · cases h
      rename_i hc
      obtain ⟨rfl, rfl, hdj⟩ := hc
      split at h
      rotate_left
      · cases h
      rename_i x hx
      simp only [Option.some.injEq] at h
      subst h
      obtain ⟨v, hv, _⟩ := hV (j, true, ty', k) (by simp [ioOuts])
      have hv : ios j = some v := hv
      have htm := I.tm (5000000 + j)
      rw [hrw] at htm
      obtain ⟨row, e1, e2, e3⟩ := htm
      have e1 : s.h id = some row := e1
      rw [hrow] at e1
      injection e1 with e1
      subst e1
      have e3 : C.tv a (5000000 + j) = ρ id := e3 rfl
      have hve : v = ρ id := by
        rw [← e3, Cx.tv, hvt, hv]; rfl
      obtain ⟨b, c, g1, g2, g3, g4⟩ := I.rows id _ hrow
      refine ⟨vs, bs, h1, ⟨⟨v, hv, rfl, b, c, by rw [hve]; exact g1, g3, unflat_rc I hrd (fun id hid => hids id (disj_mem hdj id hid)) hx g4⟩, h2⟩, h3, fun b hb => ?_, fun hn => ?_⟩
      · obtain ⟨i, hi, hr⟩ := h4 b hb
        exact ⟨i, by simp only [outIds, List.mem_append]; exact .inr hi, hr⟩
      · simp only [outIds] at hn
        exact h5 (List.nodup_append.1 hn).2.1
  | .r j ty k :: ms, rs, l, h, hA, hO, hV, hB => by
    simp only [resE] at h
    split at h
    · cases h
    · rename_i l' hl'
      obtain ⟨vs, bs, h1, h2, h3, h4, h5⟩ := resE_ok hτ I hvt hrd hids ms rs l' hl' hA (fun i hi => hO i (by simp only [outIds, List.mem_append]; exact .inr hi)) (fun p hp => hV p (List.mem_cons_of_mem _ hp)) (fun id hid => hB id (by simpa [ownIds] using hid))
      split at h
      rotate_left
      · cases h
      rename_i id ver hrw
      split at h
      rotate_left
      · cases h
      rename_i rv ty' k' xs hrow
      split at h
      rotate_left
      · cases h
      rename_i hc
      obtain ⟨rfl, rfl, rfl⟩ := hc
      simp only [Option.some.injEq] at h
      subst h
      obtain ⟨v, hv, hsl⟩ := hV (j, false, ty', k') (by simp [ioOuts])
      have hv : ios j = some v := hv
      have htm := I.tm (5000000 + j)
      rw [hrw] at htm
      obtain ⟨row, e1, e2, e3⟩ := htm
      have e1 : s.h id = some row := e1
      rw [hrow] at e1
      injection e1 with e1
      subst e1
      have e3 : C.tv a (5000000 + j) = ρ id := e3 rfl
      have hve : v = ρ id := by
        rw [← e3, Cx.tv, hvt, hv]; rfl
      obtain ⟨vals, hown, hl, _⟩ := I.rows id _ hrow
      have hown : World.holds w C.own ty' k'.cells (ρ id) xs.length vals := hown
      refine ⟨vs, bs, h1, ⟨⟨v, hv, rfl, vals, by rw [hve]; exact hown.ownsRow (by rw [← hve]; exact hsl rfl), RL_imp (fun x c hx => RC_mono (fun b hb => ⟨hrd b hb, rfl⟩) hx) hl⟩, h2⟩, h3, fun b hb => ?_, fun hn => ?_⟩
      · obtain ⟨i, hi, hr⟩ := h4 b hb
        exact ⟨i, by simp only [outIds, List.mem_append]; exact .inr hi, hr⟩
      · simp only [outIds] at hn
        exact h5 (List.nodup_append.1 hn).2.1
  | .v k :: ms, r :: rs, l, h, hA, hO, hV, hB => by
    simp only [resE] at h
    split at h
    · cases h
    · rename_i l' hl'
      obtain ⟨vs, bs, h1, h2, h3, h4, h5⟩ := resE_ok hτ I hvt hrd hids ms rs l' hl' (fun r' hr => hA r' (List.mem_cons_of_mem _ hr)) (fun i hi => hO i (by simp [outIds, hi])) hV (fun id hid => hB id (by simp [ownIds, hid]))
      have hrun : ∀ u, (resRun a r).run P w = .ok u w →
          ((r :: rs).mapM (resRun a)).run P w = .ok (u :: vs) w := by
        intro u hu
        rw [List.mapM_cons]
        simp only [Sem.run_bind, hu, Result.andThen_ok, h1, Sem.run_pure]
      split at h
      · rename_i hd
        split at h
        · rename_i x hx
          simp only [Option.some.injEq] at h
          subst h
          have hne : resAV e s r ≠ .u := by
            intro hu
            have := toK_u s.h k
            rw [← hu, hx] at this
            cases this
          obtain ⟨u, hu1, hu2⟩ := resAV_run hτ I (hA r List.mem_cons_self) hne
          refine ⟨u :: vs, bs, hrun u hu1, ⟨u, vs, rfl, rfl, toK_gen (h' := s.h) I hrd (fun id hid => hids id (fun hm => disj_spec hd id hid hm)) (fun _ _ h => h) hx hu2, h2⟩, by simp [h3], h4, h5⟩
        · cases h
      · cases h
  | .c k :: ms, r :: rs, l, h, hA, hO, hV, hB => by
    simp only [resE] at h
    split at h
    · cases h
    · rename_i l' hl'
      obtain ⟨vs, bs, h1, h2, h3, h4, h5⟩ := resE_ok hτ I hvt hrd hids ms rs l' hl' (fun r' hr => hA r' (List.mem_cons_of_mem _ hr)) (fun i hi => hO i (by simp [outIds, hi])) hV (fun id hid => hB id (by simp [ownIds, hid]))
      have hrun : ∀ u, (resRun a r).run P w = .ok u w →
          ((r :: rs).mapM (resRun a)).run P w = .ok (u :: vs) w := by
        intro u hu
        rw [List.mapM_cons]
        simp only [Sem.run_bind, hu, Result.andThen_ok, h1, Sem.run_pure]
      split at h
      · rename_i heq; cases heq
      · rename_i k0 k' x heq hav
        cases heq
        split at h
        · rename_i hk
          simp only [Option.some.injEq] at h
          subst h
          obtain ⟨u, hu1, hu2⟩ := resAV_run hτ I (r := r) (hA r List.mem_cons_self) (by rw [hav]; simp)
          rw [hav] at hu2
          obtain ⟨A, rfl, hrc⟩ := hu2
          exact ⟨_, bs, hrun _ hu1, ⟨_, vs, rfl, hk, ⟨A, rfl⟩, RC_mono (fun b hb => ⟨hrd b hb, rfl⟩) hrc, h2⟩, by simp [h3], h4, h5⟩
        · cases h
      · rename_i k0 heq hav
        cases heq
        simp only [Option.some.injEq] at h
        subst h
        obtain ⟨u, hu1, hu2⟩ := resAV_run hτ I (r := r) (hA r List.mem_cons_self) (by rw [hav]; simp)
        rw [hav] at hu2
        have hu2 : u = .slice none 0 0 := hu2
        subst hu2
        exact ⟨_, bs, hrun _ hu1, ⟨_, vs, rfl, rfl, ⟨none, rfl⟩, ⟨none, 0, [], rfl, Nat.le_refl _, rfl, fun h => absurd rfl h⟩, h2⟩, by simp [h3], h4, h5⟩
      · rename_i heq _; cases heq
      · rename_i heq _; cases heq
      · cases h
  | .o ty k fl :: ms, r :: rs, l, h, hA, hO, hV, hB => by
    simp only [resE] at h
    split at h
    · cases h
    · rename_i l' hl'
      obtain ⟨vs, bs, h1, h2, h3, h4, h5⟩ := resE_ok hτ I hvt hrd hids ms rs l' hl' (fun r' hr => hA r' (List.mem_cons_of_mem _ hr)) (fun i hi => hO i (by simp [outIds, hi])) hV (fun id hid => hB id (by simp [ownIds, hid]))
      have hrun : ∀ u, (resRun a r).run P w = .ok u w →
          ((r :: rs).mapM (resRun a)).run P w = .ok (u :: vs) w := by
        intro u hu
        rw [List.mapM_cons]
        simp only [Sem.run_bind, hu, Result.andThen_ok, h1, Sem.run_pure]
      split at h
      · rename_i heq; cases heq
      · rename_i heq _; cases heq
      · rename_i heq _; cases heq
      · rename_i ty0 k0 fl0 id ver fl' heq hav
        cases heq
        split at h
        · rename_i rv ty' k' xs hrow
          split at h
          · rename_i hc
            obtain ⟨rfl, rfl, rfl, hfl⟩ := hc
            simp only [Option.some.injEq] at h
            subst h
            obtain ⟨u, hu1, hu2⟩ := resAV_run hτ I (r := r) (hA r List.mem_cons_self) (by rw [hav]; simp)
            rw [hav] at hu2
            obtain ⟨hsf, row, e1, e2, e3⟩ := hu2
            have e1 : s.h id = some row := e1
            rw [hrow] at e1
            injection e1 with e1
            subst e1
            obtain ⟨_, e5⟩ := e3 rfl
            have e5 : u = ρ id := e5
            obtain ⟨vals, hown, hl, _⟩ := I.rows id _ hrow
            have hidO : outIds e s (.o ty' k' fl :: ms) (r :: rs) = id :: outIds e s ms rs := by simp [outIds, hav, AV.ids]
            refine ⟨u :: vs, (blk u).toList ++ bs, hrun u hu1, ⟨u, vs, bs, vals, rfl, rfl, rfl, by rw [e5]; exact rebase (World.holds.ownsRow hown (by rw [← e5]; exact hsf.sl)) (hB id (by simp [ownIds, hav, AV.ids]) _ hrow), RL_imp (fun x c hx => RC_mono (fun b hb => ⟨hrd b hb, rfl⟩) hx) hl, ?_, h2⟩, by simp [h3], ?_, ?_⟩
            · cases u <;> simp_all [isSlf]
              intro hh
              cases fl' <;> simp_all
            · intro b hb
              rw [hidO]
              rcases List.mem_append.1 hb with hb | hb
              · refine ⟨id, by simp, ⟨_, hrow, rfl⟩, ?_⟩
                rw [← e5]
                cases hbu : blk u with
                | none => rw [hbu] at hb; simp at hb
                | some b' => rw [hbu] at hb; simp at hb; rw [hb]
              · obtain ⟨i, hi, hr, hb2⟩ := h4 b hb
                exact ⟨i, List.mem_cons_of_mem _ hi, hr, hb2⟩
            · intro hnd
              rw [hidO] at hnd
              obtain ⟨hn1, hn2⟩ := List.nodup_cons.1 hnd
              cases hbu : blk u with
              | none => simpa using h5 hn2
              | some b =>
                simp only [Option.toList_some, List.singleton_append]
                refine List.nodup_cons.2 ⟨fun hb => ?_, h5 hn2⟩
                obtain ⟨i, hi, ⟨r', hr', _⟩, hb2⟩ := h4 b hb
                have := I.inj id i _ r' b hrow hr' (by rw [← e5]; exact hbu) hb2
                subst this
                exact hn1 hi
          · cases h
        · cases h
      · rename_i ty0 k0 fl0 heq hav
        cases heq
        simp only [Option.some.injEq] at h
        subst h
        obtain ⟨u, hu1, hu2⟩ := resAV_run hτ I (r := r) (hA r List.mem_cons_self) (by rw [hav]; simp)
        rw [hav] at hu2
        have hu2 : u = .slice none 0 0 := hu2
        subst hu2
        have hidO : outIds e s (.o ty k fl :: ms) (r :: rs) = outIds e s ms rs := by simp [outIds, hav, AV.ids]
        refine ⟨_, bs, hrun _ hu1, ⟨_, vs, bs, [], rfl, rfl, by simp [blk], World.ownsRow_nil _ _ _ _, rfl, fun _ => rfl, h2⟩, by simp [h3], ?_, ?_⟩
        · rw [hidO]; exact h4
        · rw [hidO]; exact h5
      · cases h
end Go.Proofs.Ytkgjchmfiohciaa.Den
