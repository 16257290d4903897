/- Operations that make memory, and write it: slices. -/
import Derived.Test.YtkgjchmfiohciaaDenS10b
namespace Go.Proofs.Ytkgjchmfiohciaa.Den
open Go.RowKit
set_option linter.unusedVariables false
set_option linter.unusedSimpArgs false
variable {P : Program} {τ : Nat → Option Ty} {C : Cx} {s : St} {o : Oper} {E : Eff} {h' : Nat → Option Row}
theorem toK_pure {R : RE} {k : K} {v : AV} {x : T k} {u : Value} (h : toK noRows k v = some x) (hv : rel R v u) : RC R.w R.rd k x u.cells.toList ∧ VR R.w R.rd k x u := by
  have slcase : ∀ (k : K) (x : List (T k)), rdSl noRows k v = some x → RC R.w R.rd (.slice k) x u.cells.toList ∧ VR R.w R.rd (.slice k) x u := by
    intro k x h
    have := rdSl_pure h hv
    obtain ⟨A, cap, vals, he, _⟩ := id this
    simp only [List.cons.injEq, and_true] at he
    subst he
    exact ⟨this, by unfold VR; rw [if_neg (by simp [K.agg])]; exact this⟩
  have other : ∀ (k : K) (x : T k), (match k with | .slice k => rdSl noRows k v | _ => none) = some x → RC R.w R.rd k x u.cells.toList ∧ VR R.w R.rd k x u := by
    intro k x h
    cases k with
    | slice k => exact slcase k x h
    | _ => simp at h
  unfold toK at h
  split at h
  · rename_i cs
    split at h
    · rename_i y hy
      split at h
      · rename_i hk
        simp only [Option.some.injEq] at h
        subst h
        obtain ⟨c, rfl, hr⟩ := hv
        obtain ⟨a, b, e, h1, h2⟩ := unflat_ok k _ _ _ _ hy hr
        simp only [rels] at h2
        subst h2
        simp only [List.append_nil] at e
        simp only [Value.cells]
        rw [e]
        exact ⟨h1, by unfold VR; rw [if_pos hk]; exact ⟨c, rfl, by rw [e]; exact h1⟩⟩
      · cases h
    · cases h
  · rename_i k' y
    split at h
    · rename_i e
      subst e
      simp only [castT_rfl, Option.some.injEq] at h
      subst h
      exact ⟨(VR_cells hv).1, hv⟩
    · cases h
  · rename_i h1 h2
    cases k with
    | slice k => exact slcase k x h
    | _ => simp at h
theorem own_set {cur : List Value} {p p' c c' q' q : List Value} {N o : Nat} (h : cur.take N = p ++ (p' ++ c ++ q') ++ q) (hN : N ≤ cur.length) (ho : o = p.length + p'.length) (hc : c.length = c'.length) :
    (cur.take o ++ c' ++ cur.drop (o + c'.length)).take N = p ++ (p' ++ c' ++ q') ++ q ∧ (cur.take o ++ c' ++ cur.drop (o + c'.length)).length = cur.length ∧ o + c'.length ≤ N := by
  have hl : N = (p ++ (p' ++ c ++ q') ++ q).length := by rw [← h, List.length_take]; omega
  obtain ⟨r, hr⟩ : ∃ r, cur = p ++ (p' ++ c ++ q') ++ q ++ r := ⟨cur.drop N, by rw [← h]; simp⟩
  simp only [List.length_append] at hl
  have e1 : cur.take o = p ++ p' := by
    rw [hr, show p ++ (p' ++ c ++ q') ++ q ++ r = (p ++ p') ++ (c ++ q' ++ q ++ r) by simp, List.take_left' (by simp [ho])]
  have e2 : cur.drop (o + c'.length) = q' ++ q ++ r := by
    rw [hr, show p ++ (p' ++ c ++ q') ++ q ++ r = (p ++ p' ++ c) ++ (q' ++ q ++ r) by simp, List.drop_left' (by simp [ho, hc]; omega)]
  rw [e1, e2]
  refine ⟨?_, ?_, by omega⟩
  · rw [show p ++ p' ++ c' ++ (q' ++ q ++ r) = (p ++ (p' ++ c' ++ q') ++ q) ++ r by simp, List.take_left' (by simp; omega)]
  · rw [hr]; simp; omega
theorem does_store_el (hτ : TauOK P τ) (hsub : ∀ id row, h' id = some row → s.h id = some row) {t : Nat} {x y : Operand} (ho : o.op = .store t x y) {id ver n off : Nat} (hx : s.ev x = .el id ver n off) (h : (effS τ s.ev h' o).sem = some E) : Does P C s o E := by
  unfold effS at h
  rw [ho] at h
  simp only at h
  split at h
  · rename_i ty ht
    obtain ⟨i, z, hi, hz, hzc, hsz, _⟩ := (hτ t ty ht).i
    rw [hx] at h
    simp only at h
    split at h
    · rename_i rv rt k xs hrow
      split at h
      · rename_i hc
        obtain ⟨rfl, hfz⟩ := hc
        split at h
        · rename_i u hu
          split at h
          · rename_i yy hyy
            simp only [Dec.sem, Option.some.injEq] at h
            subst h
            intro ρ a w I
            have h4 := hsub _ _ hrow
            have hv : rel (envOf C ρ s.h w) (.el id rv n off) (a.eval x) := hx ▸ I.ev x
            obtain ⟨_, row, e1, e2, e3⟩ := hv
            have e1 : s.h id = some row := e1
            rw [h4] at e1
            injection e1 with e1
            subst e1
            obtain ⟨k2, xs2, b, hb, hn, e4, e5⟩ := e3 rfl
            simp only [RowB.list.injEq] at hb
            obtain ⟨rfl, hb⟩ := hb
            have hb := eq_of_heq hb
            subst hb
            have e4 : blk (ρ id) = some b := e4
            obtain ⟨vals, hown, hl, _⟩ := I.rows id _ h4
            have huc := toK_frozen I hsub hfz hu (I.ev y)
            rcases hown.2 with ⟨he, hn0⟩ | ⟨g, cap, cur, he, hbg, hg, hnc, hcm, hcs, htake⟩
            · omega
            · have hgb : g = b := by
                rcases he with he | ⟨he, _⟩
                · rw [he] at e4; simpa [blk] using e4
                · rw [he] at e4; simpa [blk] using e4
              subst hgb
              obtain ⟨p, c, q, rfl, hp, hcc⟩ := RL_get (m := k.cells) (fun x c hx => RC_len hx) hl n (zero k) hn
              obtain ⟨p', c', q', rfl, hp', hcl, hnew⟩ := RC_setProj _ _ _ _ _ _ _ _ hcc hyy huc
              have hcl0 : cur.toList.length = cur.size := by simp
              have hNl : xs.length * k.cells ≤ cur.toList.length := by rw [hcl0, hcs]; exact Nat.mul_le_mul_right _ hnc
              obtain ⟨t1, t2, t3⟩ := own_set (o := n * k.cells + off) (c' := (a.eval y).cells.toList) htake hNl (by rw [hp, hp']) hcl
              have husz : (a.eval y).cells.size = i.size := by rw [hsz, ← RC_len huc]; simp
              have hul : (a.eval y).cells.toList.length = (a.eval y).cells.size := by simp
              have hst := run_storeVar (P := P) (w := w) (t := t) (off := n * k.cells + off) (u := a.eval y) hi husz hg (by omega) (RC_one huc)
              have hset := RL_set (m := k.cells) (fun x c hx => RC_len hx) (y := yy) hl rfl hp hn (RC_len hcc) hnew
              have hch := Inv.change (C := C) I (id := id) (row' := ⟨rv, true, rt, .list k (xs.set n yy)⟩) (v' := ρ id) (w' := w.setRow g (cur.toList.take (n * k.cells + off) ++ (a.eval y).cells.toList ++ cur.toList.drop (n * k.cells + off + (a.eval y).cells.size)).toArray) (some g)
                (fun b hb => by simp only [Option.some.injEq] at hb; subst hb; exact ⟨_, h4, rfl, e4⟩) (grownBy_setRow w g _)
                (fun r hr => by
                  rw [h4] at hr
                  injection hr with hr
                  subst hr
                  exact ⟨Nat.le_refl _, fun _ => ⟨⟨rfl, by simp⟩, rfl⟩⟩)
                (fun b hb => .inl ⟨_, h4, hb, fun h => h⟩)
                (fun m => by
                  refine ⟨_, ⟨?_, .inr ⟨g, cap, _, ?_, hbg, setRow_heap w g cur _ rt _ hg, by simpa using hnc, hcm, ?_, ?_⟩⟩, RL_imp (fun x c hx => RC_mono m.rd hx) hset, fun h => by cases h⟩
                  · have h1 := hown.1
                    have h2 := RC_len hnew
                    have h3 := RC_len hcc
                    rw [List.length_set]
                    simp only [List.length_append] at *
                    omega
                  · rw [List.length_set]; exact he
                  · rw [List.size_toArray, ← hcs, ← hcl0, ← hul]
                    exact t2
                  · rw [List.length_set, show (a.eval y).cells.size = (a.eval y).cells.toList.length by simp]
                    exact t1)
              rw [upd_id] at hch
              refine ⟨_, undef, _, ρ, ?_, .inr ⟨rfl, rfl⟩, hch.1, trivial⟩
              unfold execOp
              rw [ho]
              simp only [e5, Instr.storeAt, Instr.sureAddr, Sem.run_bind, Sem.run_pure, Result.andThen_ok, hst]
          · simp [Dec.sem] at h
        · simp [Dec.sem] at h
      · simp [Dec.sem] at h
    · simp [Dec.sem] at h
  · simp [Dec.sem] at h
end Go.Proofs.Ytkgjchmfiohciaa.Den
