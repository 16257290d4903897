/- Operations that leave memory as it is. -/
import Derived.Test.YtkgjchmfiohciaaDenS3
import Derived.ChangeKeysEq
namespace Go.Proofs.Ytkgjchmfiohciaa.Den
open Go.RowKit
set_option linter.unusedVariables false
set_option linter.unusedSimpArgs false
variable {P : Program} {τ : Nat → Option Ty} {C : Cx}
theorem arith_ok {op : BinOp} {k : IntKind} {x y : Int} {E : Eff} (h : (arith op k x y fun v => .ret ⟨v, []⟩).sem = some E) (hs : op ≠ .shl ∧ op ≠ .shr) :
    E.u = [] ∧ ∀ (R : RE) (t : Nat) (w : World), ∃ r, (binOp op t (.int k x) (.int k y)).run P w = .ok r w ∧ rel R E.v r := by
  obtain ⟨hs1, hs2⟩ := hs
  cases op <;> first
    | (exact absurd rfl hs1)
    | (exact absurd rfl hs2)
    | (simp only [arith, Dec.sem, reduceCtorEq] at h; done)
    | (simp only [arith, Dec.sem, Option.some.injEq] at h
       subst h
       refine ⟨rfl, fun R t w => ?_⟩
       simp [binOp, Op.intArith, Op.intCmp, Op.intBits, rel, VR, K.agg, RC] <;> rfl)
    | (simp only [arith, Dec.sem, Option.some.injEq] at h
       subst h
       refine ⟨rfl, fun R t w => ?_⟩
       simp [binOp, Op.intArith, Op.intCmp, Op.intBits, rel, VR, K.agg, RC]
       done)
    | (simp only [arith, Dec.sem] at h
       by_cases hy : y = 0
       · simp [hy, Dec.sem] at h
       · simp only [hy, decide_false, Dec.sem, Option.some.injEq] at h
         subst h
         refine ⟨rfl, fun R t w => ?_⟩
         simp [binOp, Op.intDiv, hy, rel, VR, K.agg, RC])
theorem run_part {ty : Ty} {t : Nat} (hty : TyOK P τ t ty) (w0 : World) {w : World} {rd : Nat → Prop} {u : T ty.k} {cs p c q : List Value} {off : Nat} (he : cs = p ++ c ++ q) (hp : p.length = off) (hc : RC w rd ty.k u c) :
    ∃ r, (part t cs.toArray off).run P w0 = .ok r w0 ∧ VR w rd ty.k u r ∧ r.cells.toList = c := by
  obtain ⟨i, z, hi, hz, _, hs, _⟩ := hty.i
  have hl := RC_len hc
  unfold part
  simp only [Sem.run_bind, run_isAgg hty, Result.andThen_ok]
  cases ha : ty.k.agg with
  | true =>
    refine ⟨.agg c.toArray, ?_, ?_, by simp [Value.cells]⟩
    · simp only [if_true, Sem.run_bind, run_sizeOf hi, Result.andThen_ok, Sem.run_pure]
      congr 2
      subst he
      rw [hs, ← hl, ← hp]
      simp
    · unfold VR; rw [if_pos ha]; exact ⟨_, rfl, by simpa using hc⟩
  | false =>
    rw [cells_one ha] at hl
    obtain ⟨v, rfl⟩ := List.length_eq_one_iff.1 hl
    refine ⟨v, ?_, by unfold VR; rw [if_neg (by simp [ha])]; exact hc, ?_⟩
    · subst he
      subst hp
      have : ((p ++ [v] ++ q).toArray)[p.length]? = some v := by simp
      rw [this]
      simp
    · have := RC_one hc v (by simp)
      cases v <;> simp_all [Value.cells, Value.oneCell']
theorem eqTs_fields {d : Nat} {w : World} {xs ys : List Value} {f : Nat → Nat → Option Bool} :
    ∀ (fs : List Field) (r : Bool), eqTs f (fs.map fun x => (x.offset, x.type)) = some r → (∀ x ∈ fs, x.name ≠ "_") →
    (∀ x ∈ fs, ∀ b, f x.offset x.type = some b → ∃ a c, (part x.type xs.toArray x.offset).run P w = .ok a w ∧ (part x.type ys.toArray x.offset).run P w = .ok c w ∧ (Op.equalIn d x.type a c).run P w = .ok b w) →
    (Op.eqFields d xs.toArray ys.toArray fs).run P w = .ok r w
  | [], r, h, _, _ => by simp [eqTs] at h; subst h; simp [Op.eqFields]
  | [x], r, h, hn, hf => by
    simp only [List.map_cons, List.map_nil, eqTs] at h
    obtain ⟨a, c, h1, h2, h3⟩ := hf x (by simp) r h
    simp only [Op.eqFields, if_pos (hn x (by simp)), Sem.run_bind, h1, h2, h3, Result.andThen_ok]
    cases r <;> simp [Op.eqFields]
  | x :: x' :: fs, r, h, hn, hf => by
    simp only [List.map_cons, eqTs] at h
    split at h
    · rename_i a b ha hb
      simp only [Option.some.injEq] at h
      subst h
      obtain ⟨u, c, h1, h2, h3⟩ := hf x (by simp) a ha
      have ih := eqTs_fields (x' :: fs) b (by simpa using hb) (fun y hy => hn y (List.mem_cons_of_mem _ hy)) (fun y hy => hf y (List.mem_cons_of_mem _ hy))
      unfold Op.eqFields
      simp only [if_pos (hn x (by simp)), Sem.run_bind, h1, h2, h3, Result.andThen_ok]
      cases a
      · simp
      · simpa using ih
    · cases h
theorem beq_str (x y : ByteArray) : (x.toList == y.toList) = decide (x = y) := by
  rw [ByteArray.toList_eq, ByteArray.toList_eq]
  obtain ⟨⟨x⟩⟩ := x
  obtain ⟨⟨y⟩⟩ := y
  by_cases e : x = y <;> simp [e]
theorem eqItems_ok {d e m : Nat} {ety : Ty} (he : τ e = some ety) (hτ : TauOK P τ) (w0 w : World) (rd : Nat → Prop) (dec : T ety.k → T ety.k → Bool) (cs ds : List Value) (xs ys : List (T ety.k))
    (hx : RL (RC w rd ety.k) xs cs) (hy : RL (RC w rd ety.k) ys ds) (hl : xs.length = m) (hl' : ys.length = m)
    (hd : ∀ x y u v, VR w rd ety.k x u → VR w rd ety.k y v → (Op.equalIn d e u v).run P w0 = .ok (dec x y) w0) :
    ∀ j i, i + j = m → (Op.eqItems d e (P.cellsOf e) cs.toArray ds.toArray (List.range' i j)).run P w0 = .ok ((List.zipWith dec (xs.drop i) (ys.drop i)).all id) w0 := by
  obtain ⟨ei, ez, hei, _, _, hsz, _⟩ := (hτ e ety he).i
  have hc : P.cellsOf e = ety.k.cells := by simp [Program.cellsOf, hei, hsz]
  intro j
  induction j with
  | zero =>
    intro i hi
    rw [List.drop_of_length_le (by omega)]
    simp [Op.eqItems]
  | succ j ih =>
    intro i hi
    obtain ⟨p1, c1, q1, e1, l1, r1⟩ := RL_get (m := ety.k.cells) (fun x c hx => RC_len hx) hx i (zero ety.k) (by omega)
    obtain ⟨p2, c2, q2, e2, l2, r2⟩ := RL_get (m := ety.k.cells) (fun x c hx => RC_len hx) hy i (zero ety.k) (by omega)
    obtain ⟨a, ha1, ha2, _⟩ := run_part (hτ _ _ he) w0 e1 l1 r1
    obtain ⟨c, hc1, hc2, _⟩ := run_part (hτ _ _ he) w0 e2 l2 r2
    have hg : ∀ (zs : List (T ety.k)), zs.length = m → zs.drop i = zs.getD i (zero ety.k) :: zs.drop (i + 1) := by
      intro zs hz
      rw [List.drop_eq_getElem_cons (by omega), List.getD_eq_getElem?_getD, List.getElem?_eq_getElem (by omega)]
      rfl
    rw [List.range'_succ, hg xs hl, hg ys hl', List.zipWith_cons_cons, List.all_cons]
    simp only [Op.eqItems, Sem.run_bind, hc, ha1, hc1, Result.andThen_ok, hd _ _ _ _ ha2 hc2, id]
    cases dec (xs.getD i (zero ety.k)) (ys.getD i (zero ety.k)) with
    | false => simp
    | true =>
      have := ih (i + 1) (by omega)
      rw [hc] at this
      simpa using this
theorem zipDec {α : Type} [DecidableEq α] : ∀ (xs ys : List α), xs.length = ys.length → (List.zipWith (fun x y => decide (x = y)) xs ys).all id = decide (xs = ys)
  | [], [], _ => rfl
  | x :: xs, y :: ys, h => by
    rw [List.zipWith_cons_cons, List.all_cons, zipDec xs ys (by simpa using h)]
    simp only [id, List.cons.injEq, Bool.decide_and]
  | [], y :: ys, h => by simp at h
  | x :: xs, [], h => by simp at h
theorem eqTy_ok (hτ : TauOK P τ) : ∀ (n d t : Nat) (k : K) (x y : T k) (r : Bool), n + 1 ≤ d → eqTy τ n t k x y = some r → ∀ (w0 w : World) (rd : Nat → Prop) (u v : Value), (∀ ty, τ t = some ty → ty.k = k) → VR w rd k x u → VR w rd k y v →
    (Op.equalIn d t u v).run P w0 = .ok r w0
  | 0, d, t, k, x, y, r, hd, h => by simp [eqTy] at h
  | n + 1, 0, t, k, x, y, r, hd, h => by omega
  | n + 1, d + 1, t, k, x, y, r, hd, h => by
    intro w0 w rd u v hk hu hv
    unfold eqTy at h
    cases ht : τ t with
    | none => simp [ht] at h
    | some ty =>
      have hty := hτ t ty ht
      have hk := hk ty ht
      subst hk
      have hf := hty.fits
      simp only [ht] at h
      obtain ⟨dd, by_, kk⟩ := ty
      simp only at *
      split at h
      · rename_i i j x y
        split at h
        · rename_i e
          subst e
          simp only [Option.some.injEq] at h
          subst h
          simp only [VR, K.agg, RC, Bool.false_eq_true, if_false, List.cons.injEq, and_true] at hu hv
          subst hu hv
          rw [run_equalIn_int w0 d t _ _ x y hf.1]
          rfl
        · cases h
      · rename_i x y
        simp only [Option.some.injEq] at h
        subst h
        simp only [VR, K.agg, RC, Bool.false_eq_true, if_false, List.cons.injEq, and_true] at hu hv
        subst hu hv
        rw [run_equalIn_bool' w0 d t x y hf.1]
        cases x <;> cases y <;> rfl
      · rename_i x y
        simp only [Option.some.injEq] at h
        subst h
        simp only [VR, K.agg, RC, Bool.false_eq_true, if_false, List.cons.injEq, and_true] at hu hv
        subst hu hv
        rw [run_equalIn_string w0 d t x y hf.1, beq_str]
      · rename_i m et m' ke x y
        obtain ⟨h1, ety, hety, hk2, _⟩ := hf
        simp only [K.arr.injEq] at hk2
        obtain ⟨rfl, rfl⟩ := hk2
        have hte := hτ _ _ hety
        have hfe := hte.fits
        obtain ⟨ei, ez, hei, _, _, hsz, _⟩ := hte.i
        unfold VR at hu hv
        rw [if_pos (by rfl)] at hu hv
        obtain ⟨cu, rfl, hl1, hu⟩ := hu
        obtain ⟨cv, rfl, hl2, hv⟩ := hv
        rw [run_equalIn_array _ d cu cv h1 hei]
        obtain ⟨cs, rfl⟩ : ∃ xs : List Value, cu = xs.toArray := ⟨cu.toList, by simp⟩
        obtain ⟨ds, rfl⟩ : ∃ xs : List Value, cv = xs.toArray := ⟨cv.toList, by simp⟩
        simp only at hu hv
        rw [List.range_eq_range']
        have hdp : 0 < d ∨ d = 0 := by omega
        simp only [hety] at h
        obtain ⟨de, be, ke⟩ := ety
        simp only at *
        split at h
        · rename_i i j x y
          split at h
          · rename_i e
            subst e
            simp only [Option.some.injEq] at h
            subst h
            rcases hdp with hdp | rfl
            · obtain ⟨d', rfl⟩ : ∃ d', d = d' + 1 := ⟨d - 1, by omega⟩
              rw [eqItems_ok hety hτ w0 w rd (fun a b => decide ((a : Int) = b)) cs ds _ _ hu hv hl1 hl2 (fun p q u v hu' hv' => by
                simp only [VR, K.agg, RC, Bool.false_eq_true, if_false, List.cons.injEq, and_true] at hu' hv'
                subst hu' hv'
                rw [run_equalIn_int w0 d' et _ _ p q hfe.1]
                rfl) _ 0 (Nat.zero_add _)]
              simp only [List.drop_zero]
              rw [zipDec (α := Int) _ _ (hl1.trans hl2.symm)]
            · omega
          · cases h
        · rename_i x y
          simp only [Option.some.injEq] at h
          subst h
          rcases hdp with hdp | rfl
          · obtain ⟨d', rfl⟩ : ∃ d', d = d' + 1 := ⟨d - 1, by omega⟩
            rw [eqItems_ok hety hτ w0 w rd (fun a b => decide ((a : ByteArray) = b)) cs ds _ _ hu hv hl1 hl2 (fun p q u v hu' hv' => by
              simp only [VR, K.agg, RC, Bool.false_eq_true, if_false, List.cons.injEq, and_true] at hu' hv'
              subst hu' hv'
              rw [run_equalIn_string w0 d' et p q hfe.1, beq_str]) _ 0 (Nat.zero_add _)]
            simp only [List.drop_zero]
            rw [zipDec (α := ByteArray) _ _ (hl1.trans hl2.symm)]
          · omega
        · cases h
      · rename_i fs x y
        obtain ⟨h1, h2, h3, h4, h5, h6⟩ := hf
        unfold VR at hu hv
        rw [if_pos h2] at hu hv
        obtain ⟨cu, rfl, hu⟩ := hu
        obtain ⟨cv, rfl, hv⟩ := hv
        rw [run_equalIn_struct w0 d t cu cv h1 h4]
        subst h3
        obtain ⟨xs, rfl⟩ : ∃ xs : List Value, cu = xs.toArray := ⟨cu.toList, by simp⟩
        obtain ⟨ys, rfl⟩ : ∃ xs : List Value, cv = xs.toArray := ⟨cv.toList, by simp⟩
        simp only at hu hv
        refine eqTs_fields _ r h (fun f hf => (h6 f hf).1) fun f hf b hb => ?_
        cases hft : τ f.type with
        | none => simp [hft] at hb
        | some fty =>
          simp only [hft] at hb
          split at hb
          · rename_i p q hp hq
            obtain ⟨p1, c1, q1, e1, l1, r1⟩ := RC_proj _ _ _ _ _ _ hu hp
            obtain ⟨p2, c2, q2, e2, l2, r2⟩ := RC_proj _ _ _ _ _ _ hv hq
            obtain ⟨a, ha1, ha2, _⟩ := run_part (hτ _ _ hft) w0 e1 l1 r1
            obtain ⟨c, hc1, hc2, _⟩ := run_part (hτ _ _ hft) w0 e2 l2 r2
            exact ⟨a, c, ha1, hc1, eqTy_ok hτ n d f.type _ p q b (by omega) hb w0 w rd a c (fun ty he => by rw [hft] at he; injection he with he; rw [he]) ha2 hc2⟩
          · cases hb
      · cases h
theorem agg_of {k : K} (h : ∀ i, k ≠ .int i) (h2 : k ≠ .str) (h3 : k ≠ .bool) (h4 : ∀ j, k ≠ .slice j) : k.agg = true := by cases k <;> simp_all [K.agg]
theorem binE_ok (hτ : TauOK P τ) {t : Nat} {op : BinOp} {x y : AV} {E : Eff} (h : (binE τ t op x y fun v => .ret ⟨v, []⟩).sem = some E) :
    E.u = [] ∧ ∀ (R : RE) (X Y : Operand) (u v : Value) (w : World), rel R x u → rel R y v → ∃ r, (do eqGuard op t X Y u v; binOp op t u v : Sem Value).run P w = .ok r w ∧ rel R E.v r := by
  unfold binE at h
  split at h
  · rename_i k a k' b
    have hg : ∀ (X Y : Operand) (w : World), (eqGuard op t X Y (.int k a) (.int k' b)).run P w = .ok () w := fun X Y w => by cases op <;> simp [eqGuard]
    split at h
    · simp only [Dec.guard, Dec.sem] at h
      split at h
      · rename_i hb
        simp only [Option.some.injEq] at h
        subst h
        refine ⟨rfl, fun R X Y u v w hu hv => ?_⟩
        rw [rel_int] at hu hv
        subst hu hv
        have hb : (0 : Int) ≤ b := by simpa using hb
        have hb' : ¬ ((b : Int) < 0) := Int.not_lt.mpr hb
        refine ⟨_, by simp only [Sem.run_bind, hg, Result.andThen_ok]; simp only [binOp, Op.shift]; rw [if_neg hb']; rfl, ?_⟩
        simp [rel, VR, K.agg, RC]
      · simp at h
    · simp only [Dec.guard, Dec.sem] at h
      split at h
      · rename_i hb
        simp only [Option.some.injEq] at h
        subst h
        refine ⟨rfl, fun R X Y u v w hu hv => ?_⟩
        rw [rel_int] at hu hv
        subst hu hv
        have hb : (0 : Int) ≤ b := by simpa using hb
        have hb' : ¬ ((b : Int) < 0) := Int.not_lt.mpr hb
        refine ⟨_, by simp only [Sem.run_bind, hg, Result.andThen_ok]; simp only [binOp, Op.shift]; rw [if_neg hb']; rfl, ?_⟩
        simp [rel, VR, K.agg, RC]
      · simp at h
    · rename_i h1 h2
      split at h
      · rename_i e
        subst e
        obtain ⟨e1, e2⟩ := arith_ok (P := P) h ⟨h1, h2⟩
        refine ⟨e1, fun R X Y u v w hu hv => ?_⟩
        rw [rel_int] at hu hv
        subst hu hv
        obtain ⟨r, hr, hrel⟩ := e2 R t w
        exact ⟨r, by simp only [Sem.run_bind, hg, Result.andThen_ok, hr], hrel⟩
      · simp [Dec.sem] at h
  · rename_i a b
    have hg : ∀ (X Y : Operand) (w : World), (eqGuard op t X Y (.string a) (.string b)).run P w = .ok () w := fun X Y w => by cases op <;> simp [eqGuard]
    split at h
    · simp only [Dec.sem, Option.some.injEq] at h
      subst h
      refine ⟨rfl, fun R X Y u v w hu hv => ?_⟩
      rw [rel_str] at hu hv
      subst hu hv
      exact ⟨_, by simp only [Sem.run_bind, hg, Result.andThen_ok]; simp [binOp, Op.stringOp, beq_str]; rfl, by simp [rel, VR, K.agg, RC, beq_str]⟩
    · simp only [Dec.sem, Option.some.injEq] at h
      subst h
      refine ⟨rfl, fun R X Y u v w hu hv => ?_⟩
      rw [rel_str] at hu hv
      subst hu hv
      exact ⟨_, by simp only [Sem.run_bind, hg, Result.andThen_ok]; simp [binOp, Op.stringOp, beq_str, bne]; rfl, by simp [rel, VR, K.agg, RC, beq_str, bne]⟩
    iterate 4
      · simp only [Dec.sem, Option.some.injEq] at h
        subst h
        refine ⟨rfl, fun R X Y u v w hu hv => ?_⟩
        rw [rel_str] at hu hv
        subst hu hv
        exact ⟨_, by simp only [Sem.run_bind, hg, Result.andThen_ok]; simp [binOp, Op.stringOp, beq_str]; rfl, by simp [rel, VR, K.agg, RC, beq_str, strLt]⟩
    · simp only [Dec.guard, Dec.sem] at h
      split at h
      · rename_i hb
        have hb := of_decide_eq_true hb
        simp only [Option.some.injEq] at h
        subst h
        refine ⟨rfl, fun R X Y u v w hu hv => ?_⟩
        rw [rel_str] at hu hv
        subst hu hv
        refine ⟨.string (a ++ b), ?_, by simp [rel, VR, K.agg, RC]⟩
        simp only [Sem.run_bind, hg, Result.andThen_ok, binOp, Op.stringOp]
        rw [if_neg (by simp only [IntKind.max, IntKind.signed, IntKind.bits]; push_cast; omega)]
        rfl
      · simp at h
    · simp [Dec.sem] at h
  · rename_i a b
    have hg : ∀ (X Y : Operand) (w : World), (eqGuard op t X Y (.bool a) (.bool b)).run P w = .ok () w := fun X Y w => by cases op <;> simp [eqGuard]
    have hb : (a == b) = decide (a = b) := by cases a <;> cases b <;> rfl
    split at h
    · rename_i by_ kk ht
      have hu := (hτ t _ ht).fits.1
      simp only [Dec.sem, Option.some.injEq] at h
      subst h
      refine ⟨rfl, fun R X Y u v w hu' hv => ?_⟩
      rw [rel_bool] at hu' hv
      subst hu' hv
      refine ⟨.bool (decide (a = b)), ?_, by simp [rel, VR, K.agg, RC]⟩
      simp only [Sem.run_bind, hg, Result.andThen_ok, run_eql_bool w t a b hu, hb]
    · rename_i by_ kk ht
      have hu := (hτ t _ ht).fits.1
      simp only [Dec.sem, Option.some.injEq] at h
      subst h
      refine ⟨rfl, fun R X Y u v w hu' hv => ?_⟩
      rw [rel_bool] at hu' hv
      subst hu' hv
      refine ⟨.bool (!decide (a = b)), ?_, by simp [rel, VR, K.agg, RC]⟩
      simp only [Sem.run_bind, hg, Result.andThen_ok]
      simp only [binOp, Sem.run_bind, run_equal_bool w t a b hu, hb, Result.andThen_ok, Sem.run_pure]
    · simp [Dec.sem] at h
  · rename_i k a k' b hint hstr hbool
    split at h
    · rename_i ty ht
      have hty := hτ t ty ht
      split at h
      · rename_i e
        obtain ⟨rfl, rfl, hagg⟩ := e
        have hst : ∀ r, eqTy τ 6 t ty.k a b = some r → P.eqGuardType P.depth t = false := by
          intro r hr
          have hf := hty.fits
          unfold eqTy at hr
          simp only [ht] at hr
          obtain ⟨dd, by_, kk⟩ := ty
          simp only at *
          cases dd with
          | struct fs => exact hf.2.2.2.2.1
          | int i => rw [hf.2] at hagg; simp [K.agg] at hagg
          | bool => rw [hf.2] at hagg; simp [K.agg] at hagg
          | str => rw [hf.2] at hagg; simp [K.agg] at hagg
          | arr m et => obtain ⟨_, _, _, _, h5⟩ := hf; exact h5
          | _ => simp at hr
        have main : ∀ r, eqTy τ 6 t ty.k a b = some r → ∀ (R : RE) (u v : Value) (w : World), rel R (.p ty.k a) u → rel R (.p ty.k b) v → ∃ xs ys, u = .agg xs ∧ v = .agg ys ∧ (Op.equalIn 10000 t (.agg xs) (.agg ys)).run P w = .ok r w := by
          intro r hr R u v w hu hv
          have hu : VR R.w R.rd ty.k a u := hu
          have hv : VR R.w R.rd ty.k b v := hv
          obtain ⟨xs, rfl⟩ := (VR_cells hu).2.1 hagg
          obtain ⟨ys, rfl⟩ := (VR_cells hv).2.1 hagg
          exact ⟨xs, ys, rfl, rfl, eqTy_ok (P := P) hτ 6 10000 t ty.k a b r (by omega) hr w R.w R.rd _ _ (fun ty' h' => by rw [ht] at h'; injection h' with h'; rw [h']) hu hv⟩
        split at h
        · rename_i r hr
          simp only [Dec.sem, Option.some.injEq] at h
          subst h
          refine ⟨rfl, fun R X Y u v w hu hv => ?_⟩
          obtain ⟨xs, ys, rfl, rfl, he⟩ := main r hr R u v w hu hv
          exact ⟨.bool r, by simp only [Sem.run_bind, run_eqGuard_agg w _ t X Y xs ys (hst r hr), Result.andThen_ok, run_eql_struct, he], by simp [rel, VR, K.agg, RC]⟩
        · rename_i r hr
          simp only [Dec.sem, Option.some.injEq] at h
          subst h
          refine ⟨rfl, fun R X Y u v w hu hv => ?_⟩
          obtain ⟨xs, ys, rfl, rfl, he⟩ := main r hr R u v w hu hv
          exact ⟨.bool (!r), by simp only [Sem.run_bind, run_eqGuard_agg w _ t X Y xs ys (hst r hr), Result.andThen_ok, run_neq_struct, he], by simp [rel, VR, K.agg, RC]⟩
        · simp [Dec.sem] at h
      · simp [Dec.sem] at h
    · simp [Dec.sem] at h
  · simp [Dec.sem] at h
end Go.Proofs.Ytkgjchmfiohciaa.Den
