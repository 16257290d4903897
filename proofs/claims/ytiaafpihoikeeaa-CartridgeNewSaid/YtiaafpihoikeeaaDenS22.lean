/- Functions. -/
import Derived.Test.YtiaafpihoikeeaaDenS21
namespace Go.Proofs.Ytiaafpihoikeeaa.Den
open Go.RowKit
set_option linter.unusedVariables false
set_option linter.unusedSimpArgs false
variable {P : Program} {C : Cx} {outs : List RM} {e : Env outs}
def resRun (a : Act) : ResultVar → Sem Value
  | .tmp t => pure (a.tmps.getD t undef)
  | .cell x t => do loadVar t (← asAddr (a.tmps.getD x undef))
/-- One result, as it is read. -/
theorem resAV_run (hτ : TauOK P e.τ) {ρ : Nat → Value} {s : St} {a : Act} {w : World} (I : Inv C ρ s a w) {r : ResultVar} (hne : resAV e s r ≠ .u) :
    ∃ u, (resRun a r).run P w = .ok u w ∧ rel (envOf C ρ s.h w) (resAV e s r) u := by
  cases r with
  | tmp t => exact ⟨_, rfl, I.tm t⟩
  | cell x t =>
    simp only [resAV] at hne ⊢
    split at hne
    rotate_left
    · exact absurd rfl hne
    rename_i id ver off ty hx ht
    split at hne
    rotate_left
    · exact absurd rfl hne
    rename_i rv wr rt cs hrow
    split at hne
    rotate_left
    · exact absurd rfl hne
    rename_i hc
    obtain ⟨rfl, hle⟩ := hc
    have hty := hτ t ty ht
    obtain ⟨i, z, hi, hz, _, hsz, _⟩ := hty.i
    have hv := I.tm x
    rw [hx] at hv
    obtain ⟨_, row, e1, e2, e3⟩ := hv
    have e1 : s.h id = some row := e1
    rw [hrow] at e1
    injection e1 with e1
    subst e1
    obtain ⟨b, e4, e5⟩ := e3 rfl
    obtain ⟨b', c, g1, g2, g3, g4⟩ := I.rows id _ hrow
    have e4 : blk (ρ id) = some b := e4
    rw [g1] at e4
    simp only [blk, Option.some.injEq] at e4
    subst e4
    have hlen := rels_len g4
    have hrel := rels_take ty.k.cells (rels_drop off g4)
    have hl : ((c.toList.drop off).take ty.k.cells).length = ty.k.cells := by rw [List.length_take, List.length_drop]; omega
    have hat : At w b' off ((c.toList.drop off).take ty.k.cells) := by
      intro j u hu
      rw [cell_of_row w b' _ c _ _ g3]
      have hj : j < ty.k.cells := by
        have := (List.getElem?_eq_some_iff.1 hu).1
        rw [hl] at this; exact this
      rw [List.getElem?_take, if_pos hj, List.getElem?_drop] at hu
      simpa using hu
    have hi5 : a.tmps.getD x undef = .pointer (some ⟨b', off, none⟩) := e5
    rw [if_pos ⟨rfl, hle⟩]
    cases hagg : ty.k.agg with
    | true =>
      refine ⟨.agg ((c.toList.drop off).take ty.k.cells).toArray, ?_, ?_⟩
      · simp only [resRun, hi5, asAddr, Sem.run_bind, Sem.run_pure, Result.andThen_ok, loadVar, run_isAgg hty, hagg, if_true, run_sizeOf hi]
        rw [hsz]
        have := run_loadCells_list (P := P) w ⟨b', off, none⟩ ((c.toList.drop off).take ty.k.cells) (fun j v hj => by rw [addr_add]; exact hat j v hj)
        rw [hl] at this
        rw [this]
        rfl
      · rw [if_pos rfl]
        exact ⟨_, rfl, by simpa using hrel⟩
    | false =>
      rw [cells_one hagg] at hl hat hrel
      obtain ⟨v, hv⟩ := List.length_eq_one_iff.1 hl
      rw [hv] at hat hrel
      have := hat 0 v rfl
      simp only [Nat.add_zero] at this
      refine ⟨v, ?_, ?_⟩
      · simp [resRun, hi5, asAddr, loadVar, run_isAgg hty, hagg, run_load, this]
      · rw [if_neg (by simp)]
        have ho : off < cs.length := by rw [cells_one hagg] at hle; omega
        obtain ⟨u', hu1, hu2⟩ := rels_get (i := 0) (a := cs[off]) hrel (by rw [List.getElem?_take]; simp [ho])
        simp at hu1
        subst hu1
        rw [List.getElem?_eq_getElem ho]
        exact hu2
theorem toK_u (h : Nat → Option Row) (k : K) : toK h k .u = none := by cases k <;> rfl
theorem nodup_spec : ∀ {l : List Nat}, nodup l = true → l.Nodup
  | [], _ => List.nodup_nil
  | i :: l, h => by
    simp only [nodup, Bool.and_eq_true, Bool.not_eq_true'] at h
    refine List.nodup_cons.2 ⟨fun hm => ?_, nodup_spec h.2⟩
    have : l.contains i = true := by simpa using hm
    rw [this] at h; cases h.1
/-- The results, as they are handed back. -/
theorem resE_ok (hτ : TauOK P e.τ) {ρ : Nat → Value} {s : St} {a : Act} {w : World} (I : Inv C ρ s a w) {O : List Nat} {rd : Nat → Prop}
    (hrd : ∀ b, Rd C s.h ρ w b → rd b) (hids : ∀ id, id ∉ O → ∀ r, s.h id = some r → ∀ b, blk (ρ id) = some b → rd b) :
    ∀ (ms : List RM) (rs : List ResultVar) (l : List PV), resE e s O ms rs = some l → (∀ i ∈ outIds e s ms rs, i ∈ O) →
    ∃ vs bs, (rs.mapM (resRun a)).run P w = .ok vs w ∧ ResRel w C.w0.heap.size rd ms l vs bs ∧ vs.length = rs.length ∧
      (∀ b ∈ bs, ∃ i ∈ outIds e s ms rs, (∃ r, s.h i = some r ∧ r.wr = true) ∧ blk (ρ i) = some b) ∧ ((outIds e s ms rs).Nodup → bs.Nodup)
  | [], [], l, h, hO => by
    simp only [resE, Option.some.injEq] at h
    subst h
    exact ⟨[], [], by simp, ⟨rfl, rfl⟩, rfl, fun b hb => by simp at hb, fun _ => List.nodup_nil⟩
  | [], _ :: _, l, h, hO => by simp [resE] at h
  | _ :: _, [], l, h, hO => by simp [resE] at h
  | m :: ms, r :: rs, l, h, hO => by
    simp only [resE] at h
    split at h
    · cases h
    · rename_i l' hl'
      have hO' : ∀ i ∈ outIds e s ms rs, i ∈ O := by
        intro i hi
        refine hO i ?_
        cases m <;> simp [outIds, hi]
      obtain ⟨vs, bs, h1, h2, h3, h4, h5⟩ := resE_ok hτ I hrd hids ms rs l' hl' hO'
      have hrun : ∀ u, (resRun a r).run P w = .ok u w →
          ((r :: rs).mapM (resRun a)).run P w = .ok (u :: vs) w := by
        intro u hu
        rw [List.mapM_cons]
        simp only [Sem.run_bind, hu, Result.andThen_ok, h1, Sem.run_pure]
      split at h
      · -- data
        rename_i k v
        split at h
        · rename_i hd
          split at h
          · rename_i x hx
            simp only [Option.some.injEq] at h
            subst h
            have hne : resAV e s r ≠ .u := by
              intro hu
              have := toK_u s.h (by assumption : K)
              rw [← hu, hx] at this
              cases this
            obtain ⟨u, hu1, hu2⟩ := resAV_run hτ I hne
            refine ⟨u :: vs, bs, hrun u hu1, ⟨u, vs, rfl, rfl, toK_gen (h' := s.h) I hrd (fun id hid => hids id (fun hm => disj_spec hd id hid hm)) (fun _ _ h => h) hx hu2, h2⟩, by simp [h3], h4, h5⟩
          · cases h
        · cases h
      · rename_i k k' x hav
        split at h
        · rename_i hk
          simp only [Option.some.injEq] at h
          subst h
          obtain ⟨u, hu1, hu2⟩ := resAV_run hτ I (r := r) (by rw [hav]; simp)
          rw [hav] at hu2
          obtain ⟨A, rfl, hrc⟩ := hu2
          exact ⟨_, bs, hrun _ hu1, ⟨_, vs, rfl, hk, ⟨A, rfl⟩, RC_mono (fun b hb => ⟨hrd b hb, rfl⟩) hrc, h2⟩, by simp [h3], h4, h5⟩
        · cases h
      · rename_i k hav
        simp only [Option.some.injEq] at h
        subst h
        obtain ⟨u, hu1, hu2⟩ := resAV_run hτ I (r := r) (by rw [hav]; simp)
        rw [hav] at hu2
        have hu2 : u = .slice none 0 0 := hu2
        subst hu2
        exact ⟨_, bs, hrun _ hu1, ⟨_, vs, rfl, rfl, ⟨none, rfl⟩, ⟨none, 0, [], rfl, Nat.le_refl _, rfl, fun h => absurd rfl h⟩, h2⟩, by simp [h3], h4, h5⟩
      · rename_i ty k fl id ver fl' hav
        split at h
        · rename_i rv ty' k' xs hrow
          split at h
          · rename_i hc
            obtain ⟨rfl, rfl, rfl, hfl⟩ := hc
            simp only [Option.some.injEq] at h
            subst h
            obtain ⟨u, hu1, hu2⟩ := resAV_run hτ I (r := r) (by rw [hav]; simp)
            rw [hav] at hu2
            obtain ⟨hsf, row, e1, e2, e3⟩ := hu2
            have e1 : s.h id = some row := e1
            rw [hrow] at e1
            injection e1 with e1
            subst e1
            obtain ⟨_, e5⟩ := e3 rfl
            have e5 : u = ρ id := e5
            obtain ⟨vals, hown, hl, _⟩ := I.rows id _ hrow
            have hidO : outIds e s (.o ty' k' fl :: ms) (r :: rs) = id :: outIds e s ms rs := by simp [outIds, hav, AV.ids]
            refine ⟨u :: vs, (blk u).toList ++ bs, hrun u hu1, ⟨u, vs, bs, vals, rfl, rfl, rfl, by rw [e5]; exact hown, RL_imp (fun x c hx => RC_mono (fun b hb => ⟨hrd b hb, rfl⟩) hx) hl, ?_, h2⟩, by simp [h3], ?_, ?_⟩
            · cases u <;> simp_all [isSlf]
              intro hh
              cases fl' <;> simp_all
            · intro b hb
              rw [hidO]
              rcases List.mem_append.1 hb with hb | hb
              · refine ⟨id, by simp, ⟨_, hrow, rfl⟩, ?_⟩
                rw [← e5]
                cases hbu : blk u with
                | none => rw [hbu] at hb; simp at hb
                | some b' => rw [hbu] at hb; simp at hb; rw [hb]
              · obtain ⟨i, hi, hr, hb2⟩ := h4 b hb
                exact ⟨i, List.mem_cons_of_mem _ hi, hr, hb2⟩
            · intro hnd
              rw [hidO] at hnd
              obtain ⟨hn1, hn2⟩ := List.nodup_cons.1 hnd
              cases hbu : blk u with
              | none => simpa using h5 hn2
              | some b =>
                simp only [Option.toList_some, List.singleton_append]
                refine List.nodup_cons.2 ⟨fun hb => ?_, h5 hn2⟩
                obtain ⟨i, hi, ⟨r', hr', _⟩, hb2⟩ := h4 b hb
                have := I.inj id i _ r' b hrow hr' (by rw [← e5]; exact hbu) hb2
                subst this
                exact hn1 hi
          · cases h
        · cases h
      · rename_i ty k fl hav
        simp only [Option.some.injEq] at h
        subst h
        obtain ⟨u, hu1, hu2⟩ := resAV_run hτ I (r := r) (by rw [hav]; simp)
        rw [hav] at hu2
        have hu2 : u = .slice none 0 0 := hu2
        subst hu2
        have hidO : outIds e s (.o ty k fl :: ms) (r :: rs) = outIds e s ms rs := by simp [outIds, hav, AV.ids]
        refine ⟨_, bs, hrun _ hu1, ⟨_, vs, bs, [], rfl, rfl, by simp [blk], World.ownsRow_nil _ _ _ _, rfl, fun _ => rfl, h2⟩, by simp [h3], ?_, ?_⟩
        · rw [hidO]; exact h4
        · rw [hidO]; exact h5
      · cases h
end Go.Proofs.Ytiaafpihoikeeaa.Den
