/- Clone: a slice is compared with nil. -/
import Derived.Test.YtkgjchmfiohciaaDenS24
namespace Go.Proofs.Ytkgjchmfiohciaa.Den
open Go.RowKit
set_option linter.unusedVariables false
set_option linter.unusedSimpArgs false
variable {P : Program} {C : Cx}
/-- A slice is compared with nil. -/
theorem run_eq_nil {w : World} {t e : TypeId} {A : Option Addr} {n c : Nat} (hu : P.underlying t = some (.slice e)) : (binOp .eql t (.slice A n c) (.slice none 0 0)).run P w = .ok (.bool A.isNone) w := by
  have h : ∀ d : Nat, (Op.equalIn (d + 1) t (.slice A n c) (.slice none 0 0)).run P w = .ok A.isNone w := fun d => by
    cases A <;> simp [Op.equalIn, run_underlying hu]
  simp only [binOp]
  simp [Op.equal, Op.maxDepth, h 9999]
def seqL : Code → Code | .seq a _ => a | c => c
def seqR : Code → Code | .seq _ b => b | c => c
def condT : Code → Code | .cond _ a _ => a | c => c
def opAt (c : Code) (i : Nat) : Oper := match c with
  | .region _ ops _ => match ops[i]? with | some o => o | none => ⟨none, .move (.tmp 0), 0, "", #[], none⟩
  | _ => ⟨none, .move (.tmp 0), 0, "", #[], none⟩
def cloneAt {k : K} (s : St) (xs : List (T k)) (b : Bool) : St := ⟨upd (upd s.t 3 (.p (.slice k) xs)) 4 (.p .bool b), s.h⟩
theorem clone_ok {k : K} {e : Env [.v (.slice k)]} {f : Nat} {fn : Func} {t t' e0 by_ i1 : Nat} {o1 o2 : Oper} {r0 ca b : Code} {F : List (T k) → Option (List (T k))} {s0 : List (T k) → St}
    (hf : P.funcs[f]? = some fn) (hb : fn.body = some (.seq r0 (.seq (.seq (.region i1 #[o1, o2] false) (.cond (.tmp 4) ca .skip)) b))) (hname : (fn.name != "runtime.NumGoroutine") = true) (hmix : P.follows .mixedOrders = true)
    (hτ : TauOK P e.τ) (hΓ : ∀ f sp, e.Γ f = some sp → SpecOK P f sp) (hn : e.n = fn.ntmps) (hi : 5 ≤ fn.ntmps) (hn5 : fn.ntmps ≤ 5000000) (hr : fn.results.toList = e.res)
    (ht : e.τ t = some ⟨.slice e0, by_, .slice k⟩) (hpos : 0 < k.cells)
    (h1 : o1.guard = none) (h1o : o1.op = .move (.tmp 0)) (h1d : o1.dst = some 3)
    (h2 : o2.guard = none) (h2o : o2.op = .binOp .eql t (.tmp 3) (.const (.slice none 0 0)) t') (h2d : o2.dst = some 4)
    (hl : ∀ C : Cx, Loops P C e r0 ∧ Loops P C e ca ∧ Loops P C e b)
    (c0 : ∀ xs, codeE e r0 (X := St) (fun _ _ => none) (fun _ => none) some (init [.v (.slice k)] xs) = some (s0 xs))
    (hs0 : ∀ xs, (s0 xs).t 0 = .p (.slice k) xs)
    (cc : ∀ xs, codeE e ca (fun _ _ => none) some (fun _ => none) (cloneAt (s0 xs) xs true) = some [])
    (cb : ∀ xs, codeE e b (fun _ _ => none) some (fun s => fin e s) (cloneAt (s0 xs) xs false) = F xs) (hF : F [] = some []) :
    SpecOK P f ⟨[.v (.slice k)], [.v (.slice k)], F⟩ where
  io := rfl
  enters := by rw [hf]; simp only [Option.any_some, hname, hb, Option.isSome_some, Bool.and_self]
  calls := by
    intro (xs : List (T k)) (y : List (T k)) hy w ok ios args hok hkeys hib hinj hpv
    refine calls_of_wp hf hb ?_
    have I := init_ok (n := fn.ntmps) hok (ins := [.v (.slice k)]) (x := xs) hkeys hib hinj (by simp [ioIns]) hn5 (by simp; omega) hpv
    have hy : F xs = some y := hy
    have hbOK : EnvOK P (cxOf w ok ios fn.ntmps hn5) e := ⟨hτ, hn, hΓ⟩
    have done : ∀ ρ s a w', Inv (cxOf w ok ios fn.ntmps hn5) ρ s a w' → fin e s = some y → a.defers = [] ∧ ∃ v, (results fn a.tmps).run P w' = .ok v w' ∧ (∃ v', Ending.returned v = .returned v' ∧ BelowX (iob ios) w.heap.size w w' ∧ ResR w w' ok ios [.v (.slice k)] (unL (RM.ks [.v (.slice k)]) y) v') := by
      intro ρ s a w' I hfin
      obtain ⟨v, h1, h2⟩ := fin_ok hτ hr (ios := ios) (fun j => by
        show (if 5000000 + j < 5000000 then none else ios (5000000 + j - 5000000)) = _
        rw [if_neg (by omega), Nat.add_sub_cancel_left]) (fun b hb => hb) hkeys (fun p hp => by simp [ioOuts] at hp) I hfin
      exact ⟨I.hd, v, h1, v, rfl, I.fr, h2⟩
    refine wp_seq (code_ok hbOK hmix r0 (hl _).1 _ _ _ _ (s0 xs) (c0 xs) _ _ _ I _ (fun ρ s' a' w' h' I' => ?_) (fun j ρ' s' a' w' h' I' => by cases h') (fun z a' w' h' hf => by cases h'))
    simp only [Option.some.injEq] at h'
    subst h'
    refine wp_seq (wp_seq (wp_region ?_))
    have hv := I'.tm 0
    rw [hs0, Cx.tv_lt (by omega)] at hv
    have hv : VR w' _ (.slice k) xs (a'.tmps.getD 0 undef) := hv
    have hrc := hv
    unfold VR at hrc
    rw [if_neg (by simp [K.agg])] at hrc
    obtain ⟨A, cap, vals, hA, hcap, hrl, hne⟩ := hrc
    simp only [List.cons.injEq, and_true] at hA
    -- the move
    show wpOps P #[o1, o2] _ [0, 1] a' w'
    have d3 : okDst fn.ntmps (some 3) = true := by simp only [okDst, Nat.blt_eq]; omega
    have d4 : okDst fn.ntmps (some 4) = true := by simp only [okDst, Nat.blt_eq]; omega
    have w1 : Region.wanted o1 (yielded #[o1, o2] a'.tmps) = true := by unfold Region.wanted; rw [h1]
    unfold wpOps
    simp only [List.getElem?_toArray, List.getElem?_cons_zero, w1, if_true]
    refine .inl ?_
    have I1 := Inv.put (dst := some 3) (v := .p (.slice k) xs) (u := a'.tmps.getD 0 undef) I' d3 hv
    have m1 : (execOp a'.eval o1).run P w' = .ok (.value (a'.tmps.getD 0 undef)) w' := by
      unfold execOp
      rw [h1o]
      rfl
    unfold Oper.wp
    rw [m1, Oper.upon_value, h1d]
    have w2 : Region.wanted o2 (yielded #[o1, o2] (a'.put (some 3) (a'.tmps.getD 0 undef)).tmps) = true := by unfold Region.wanted; rw [h2]
    unfold wpOps
    simp only [List.getElem?_toArray, List.getElem?_cons_succ, List.getElem?_cons_zero, w2, if_true]
    refine .inl ?_
    have hv3 : (a'.put (some 3) (a'.tmps.getD 0 undef)).tmps.getD 3 undef = a'.tmps.getD 0 undef := by
      have hsz : a'.tmps.size = fn.ntmps := I'.sz
      have hlt : 3 < a'.tmps.size := by omega
      simp [Act.put, Array.getD_eq_getD_getElem?, Array.getElem?_setIfInBounds, hlt]
    obtain ⟨hu, _⟩ := (hτ t _ ht).fits
    have m2 : (execOp (a'.put (some 3) (a'.tmps.getD 0 undef)).eval o2).run P w' = .ok (.value (.bool A.isNone)) w' := by
      unfold execOp
      rw [h2o]
      have := run_eq_nil (P := P) (w := w') (A := A) (n := xs.length) (c := cap) hu
      have e3 : (a'.put (some 3) (a'.tmps.getD 0 undef)).eval (.tmp 3) = .slice A xs.length cap := by rw [← hA]; exact hv3
      have e0 : (a'.put (some 3) (a'.tmps.getD 0 undef)).eval (.const (.slice none 0 0)) = .slice none 0 0 := rfl
      have hg : (eqGuard .eql t (.tmp 3) (.const (.slice none 0 0)) (.slice A xs.length cap) (.slice none 0 0)).run P w' = .ok () w' := by simp [eqGuard]
      simp only [e3, e0, Sem.run_bind, hg, this, Result.andThen_ok, Sem.run_pure]
    unfold Oper.wp
    rw [m2, Oper.upon_value, h2d]
    have I2 := Inv.put (dst := some 4) (v := .p .bool A.isNone) (u := .bool A.isNone) I1 d4 (rel_bool.2 rfl)
    unfold wpOps
    show (Code.cond (.tmp 4) ca .skip).wp P _ _ _
    have I2 : Inv (cxOf w ok ios fn.ntmps hn5) ρ (cloneAt (s0 xs) xs A.isNone) ((a'.put (some 3) (a'.tmps.getD 0 undef)).put (some 4) (.bool A.isNone)) w' := I2
    have hc := I2.tm 4
    have e4 : (cloneAt (s0 xs) xs A.isNone).t 4 = .p .bool A.isNone := upd_same (upd (s0 xs).t 3 (.p (.slice k) xs)) 4 (.p .bool A.isNone)
    rw [e4, rel_bool, Cx.tv_lt (by omega)] at hc
    have hc : ((a'.put (some 3) (a'.tmps.getD 0 undef)).put (some 4) (.bool A.isNone)).eval (.tmp 4) = .bool A.isNone := hc
    refine wp_cond hc ?_
    cases hAn : A with
    | none =>
      rw [hAn] at I2 hne
      have hvn : vals = [] := by
        by_cases hvn : vals = []
        · exact hvn
        · obtain ⟨_, _, e1, _⟩ := hne hvn; cases e1
      have hlen := RL_len (m := k.cells) (fun x c hx => RC_len hx) hrl
      rw [hvn] at hlen
      have hx : xs = [] := by
        cases xs with
        | nil => rfl
        | cons x xs =>
          simp only [List.length_nil, List.length_cons, Nat.add_mul, Nat.one_mul] at hlen
          omega
      have hyn : y = [] := by
        rw [hx, hF] at hy
        exact (Option.some.inj hy).symm
      subst hyn
      refine code_ok hbOK hmix ca (hl _).2.1 _ _ _ _ _ (cc xs) _ _ _ I2 _ (fun ρ' s' a' w' h' I' => by cases h') (fun j ρ' s' a' w' h' I' => by cases h') (fun z a' w' h' hf => ?_)
      have h' := Option.some.inj h'
      subst h'
      obtain ⟨ρ2, s2, I2, hf2⟩ := hf
      exact done ρ2 s2 a' w' I2 hf2
    | some ad =>
      rw [hAn] at I2
      refine wp_skip ?_
      refine code_ok hbOK hmix b (hl _).2.2 _ _ _ _ y (by rw [← hy]; exact cb xs) _ _ _ I2 _ (fun ρ' s' a' w' h' I' => done ρ' s' a' w' I' h') (fun j ρ' s' a' w' h' I' => by cases h') (fun z a' w' h' hf => ?_)
      have h' := Option.some.inj h'
      subst h'
      obtain ⟨ρ2, s2, I2, hf2⟩ := hf
      exact done ρ2 s2 a' w' I2 hf2
end Go.Proofs.Ytkgjchmfiohciaa.Den
