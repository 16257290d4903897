/- Operations that leave memory as it is, more. -/
import Derived.Test.YtkgjchmfiohciaaDenS6
import Derived.Lib.ConvBytes
import Derived.Laws.BytesArg
namespace Go.Proofs.Ytkgjchmfiohciaa.Den
open Go.RowKit
set_option linter.unusedVariables false
set_option linter.unusedSimpArgs false
variable {P : Program} {τ : Nat → Option Ty} {C : Cx} {s : St} {o : Oper} {E : Eff} {h' : Nat → Option Row}
theorem does_field (hτ : TauOK P τ) {t : Nat} {x : Operand} {f : Nat} (ho : o.op = .field t x f) (h : (effS τ s.ev h' o).sem = some E) : Does P C s o E := by
  unfold effS at h
  rw [ho] at h
  simp only at h
  split at h
  · rename_i fs by_ k ht
    split at h
    · rename_i off ft kk v hf hx
      split at h
      · rename_i hkk
        split at h
        · rename_i fty hft
          split at h
          · rename_i u hu
            simp only [Dec.sem, Option.some.injEq] at h
            subst h
            refine Does.pure fun ρ a w I => ?_
            have hv : rel (envOf C ρ s.h w) (.p kk v) (a.eval x) := hx ▸ I.ev x
            obtain ⟨fld, g1, g2, g3, g4, i, g5, g6⟩ := (hτ t _ ht).fieldAt hf
            have hv' : VR w (Rd C s.h ρ w) kk v (a.eval x) := hv
            obtain ⟨cs, hcs⟩ := (VR_cells hv').2.1 hkk
            have hrc := (VR_cells hv').1
            rw [hcs] at hrc
            simp only [Value.cells] at hrc
            obtain ⟨p, c, q, e, hp, hc⟩ := RC_proj _ _ _ _ _ _ hrc hu
            obtain ⟨r, hr1, hr2, _⟩ := run_part (hτ _ _ hft) w e hp hc
            refine ⟨r, ?_, hr2⟩
            unfold execOp
            rw [ho]
            simp only [hcs, Instr.field, Sem.run_bind, run_underlying g1, Result.andThen_ok, g2, asAgg, Sem.run_pure, g3, g4]
            have hr1' : (part ft cs off).run P w = .ok r w := by simpa using hr1
            rw [hr1']
            rfl
          · simp [Dec.sem] at h
        · simp [Dec.sem] at h
      · simp [Dec.sem] at h
    · simp [Dec.sem] at h
  · simp [Dec.sem] at h
theorem does_load (hτ : TauOK P τ) (hsub : ∀ id row, h' id = some row → s.h id = some row) {t : Nat} {x : Operand} (ho : o.op = .load t x) (h : (effS τ s.ev h' o).sem = some E) : Does P C s o E := by
  unfold effS at h
  rw [ho] at h
  simp only at h
  split at h
  · rename_i ty ht
    have hty := hτ t ty ht
    obtain ⟨i, z, hi, hz, _, hsz, _⟩ := hty.i
    -- what a load gives
    have hrun : ∀ (a : Act) (w : World) (b n : Nat) (vals : List Value), a.eval x = .pointer (some ⟨b, n, none⟩) → vals.length = ty.k.cells → At w b n vals →
        (execOp a.eval o).run P w = .ok (.value (if ty.k.agg then .agg vals.toArray else vals.headD undef)) w := by
      intro a w b n vals ha hl hat
      unfold execOp
      rw [ho]
      simp only [ha, Instr.loadAt, Instr.sureAddr, Sem.run_bind, Sem.run_pure, Result.andThen_ok, loadVar, run_isAgg hty]
      cases hagg : ty.k.agg with
      | true =>
        simp only [if_true, Sem.run_bind, run_sizeOf hi, Result.andThen_ok]
        rw [hsz, ← hl, run_loadCells_list w ⟨b, n, none⟩ vals (fun j v hj => by rw [addr_add]; exact hat j v hj)]
        rfl
      | false =>
        rw [cells_one hagg] at hl
        obtain ⟨v, rfl⟩ := List.length_eq_one_iff.1 hl
        have := hat 0 v rfl
        simp only [Nat.add_zero] at this
        simp [run_load, this]
    split at h
    · rename_i k v hx
      split at h
      · rename_i e
        subst e
        simp only [Dec.sem, Option.some.injEq] at h
        subst h
        refine Does.pure fun ρ a w I => ?_
        have hv : rel (envOf C ρ s.h w) (.fe ty.k v) (a.eval x) := hx ▸ I.ev x
        obtain ⟨b, m, cs, ha, hc, hrd, hat⟩ := hv
        exact ⟨_, hrun a w b m cs ha (RC_len hc) hat, VR_of hc⟩
      · simp [Dec.sem] at h
    · rename_i id ver off hx
      split at h
      · rename_i rv wr rt cs hrow
        split at h
        · rename_i e
          obtain ⟨rfl, hle⟩ := e
          have key : ∀ ρ a w, Inv C ρ s a w → ∃ b c, a.eval x = .pointer (some ⟨b, off, none⟩) ∧ rels (envOf C ρ s.h w) ((cs.drop off).take ty.k.cells) c ∧ c.length = ty.k.cells ∧ At w b off c := by
            intro ρ a w I
            have hv : rel (envOf C ρ s.h w) (.ad id rv off) (a.eval x) := hx ▸ I.ev x
            obtain ⟨_, row, e1, e2, e3⟩ := hv
            have h4 := hsub _ _ hrow
            have e1 : s.h id = some row := e1
            rw [h4] at e1
            injection e1 with e1
            subst e1
            obtain ⟨b, e40, e5⟩ := e3 rfl
            have e40 : ρ id = .pointer (some ⟨b, 0, none⟩) := e40
            have e4 : blk (ρ id) = some b := by rw [e40]; rfl
            obtain ⟨b', c, g1, g2, g3, g4⟩ := I.rows id _ h4
            have e4 : blk (ρ id) = some b := e4
            rw [g1] at e4
            simp only [blk, Option.some.injEq] at e4
            subst e4
            have hlen := rels_len g4
            refine ⟨b', (c.toList.drop off).take ty.k.cells, e5, rels_take _ (rels_drop _ g4), by rw [List.length_take, List.length_drop]; omega, fun j u hu => ?_⟩
            rw [cell_of_row w b' _ c _ _ g3]
            have hj : j < ty.k.cells := by
              have := (List.getElem?_eq_some_iff.1 hu).1
              rw [List.length_take] at this; omega
            rw [List.getElem?_take, if_pos hj, List.getElem?_drop] at hu
            simpa using hu
          split at h
          · rename_i hagg
            simp only [Dec.sem, Option.some.injEq] at h
            subst h
            refine Does.pure fun ρ a w I => ?_
            obtain ⟨b, c, h1, h2, h3, h5⟩ := key ρ a w I
            refine ⟨_, hrun a w b off c h1 h3 h5, ?_⟩
            rw [if_pos hagg]
            exact pack_ok hagg h2
          · rename_i hagg
            split at h
            · rename_i v hv
              simp only [Dec.sem, Option.some.injEq] at h
              subst h
              refine Does.pure fun ρ a w I => ?_
              obtain ⟨b, c, h1, h2, h3, h5⟩ := key ρ a w I
              refine ⟨_, hrun a w b off c h1 h3 h5, ?_⟩
              rw [if_neg hagg]
              rw [cells_one (by simpa using hagg)] at h2 h3
              obtain ⟨u, rfl⟩ := List.length_eq_one_iff.1 h3
              obtain ⟨u', hu1, hu2⟩ := rels_get (i := 0) (a := v) h2 (by rw [List.getElem?_take]; simpa using hv)
              simp at hu1
              subst hu1
              exact hu2
            · simp [Dec.sem] at h
        · simp [Dec.sem] at h
      · rename_i rv wr rt k xs hrow
        split at h
        · rename_i n k' hk
          split at h
          · rename_i e
            obtain ⟨rfl, rfl⟩ := e
            simp only [Dec.guard, Dec.sem] at h
            split at h
            · rename_i hg
              have hlen : xs.length = n := by have := of_decide_eq_true hg; omega
              simp only [Option.some.injEq] at h
              subst h
              refine Does.pure fun ρ a w I => ?_
              have hv : rel (envOf C ρ s.h w) (.ad id rv 0) (a.eval x) := hx ▸ I.ev x
              obtain ⟨_, row, e1, e2, e3⟩ := hv
              have h4 := hsub _ _ hrow
              have e1 : s.h id = some row := e1
              rw [h4] at e1
              injection e1 with e1
              subst e1
              obtain ⟨b, e40, e5⟩ := e3 rfl
              have e40 : ρ id = .pointer (some ⟨b, 0, none⟩) := e40
              have e4 : blk (ρ id) = some b := by rw [e40]; rfl
              obtain ⟨vals, g3, g4, g5, g6, _⟩ := row_reads I h4
              have hat := (g6 b e4).1
              have hrc : RC w (Rd C s.h ρ w) (.arr n k') xs vals := ⟨hlen, g3⟩
              have hagg : ty.k.agg = true := by rw [hk]; rfl
              refine ⟨_, hrun a w b 0 vals e5 (by rw [RC_len hrc, hk]) hat, ?_⟩
              rw [if_pos hagg]
              show VR _ _ _ _ _
              unfold VR
              rw [if_pos (by rfl)]
              exact ⟨_, rfl, by simpa using hrc⟩
            · simp at h
          · simp [Dec.sem] at h
        · simp [Dec.sem] at h
      · simp [Dec.sem] at h
    · rename_i id ver n off hx
      split at h
      · rename_i rv wr rt k xs hrow
        split at h
        · rename_i e
          subst e
          split at h
          · rename_i u hu
            simp only [Dec.sem, Option.some.injEq] at h
            subst h
            refine Does.pure fun ρ a w I => ?_
            have hv : rel (envOf C ρ s.h w) (.el id rv n off) (a.eval x) := hx ▸ I.ev x
            obtain ⟨_, row, e1, e2, e3⟩ := hv
            have h4 := hsub _ _ hrow
            have e1 : s.h id = some row := e1
            rw [h4] at e1
            injection e1 with e1
            subst e1
            obtain ⟨k2, xs2, b, hb, hn, e4, e5⟩ := e3 rfl
            simp only [RowB.list.injEq] at hb
            obtain ⟨rfl, hb⟩ := hb
            have hb := eq_of_heq hb
            subst hb
            obtain ⟨vals, g3, g4, g5, g6, _⟩ := row_reads I h4
            have e4 : blk (ρ id) = some b := e4
            have hat := (g6 b e4).1
            obtain ⟨p, c, q, rfl, hp, hc⟩ := RL_get (m := k.cells) (fun x c hx => RC_len hx) g3 n (zero k) hn
            obtain ⟨p', c', q', rfl, hp', hc'⟩ := RC_proj _ _ _ _ _ _ hc hu
            have hat2 : At w b (n * k.cells + off) c' := by
              have h1 := (At_app (At_app hat).1).2
              rw [hp, Nat.zero_add] at h1
              have h2 := (At_app (At_app h1).1).2
              rwa [hp'] at h2
            exact ⟨_, hrun a w b _ c' e5 (RC_len hc') hat2, VR_of hc'⟩
          · simp [Dec.sem] at h
        · simp [Dec.sem] at h
      · simp [Dec.sem] at h
    · simp [Dec.sem] at h
  · simp [Dec.sem] at h
end Go.Proofs.Ytkgjchmfiohciaa.Den
