/- Functions. -/
import Derived.Test.YtiaafpihoikeeaaDenS22
namespace Go.Proofs.Ytiaafpihoikeeaa.Den
open Go.RowKit
set_option linter.unusedVariables false
set_option linter.unusedSimpArgs false
variable {P : Program} {C : Cx} {outs : List RM} {e : Env outs}
theorem ResRel_mono {w : World} {n0 : Nat} {rd rd' : Nat → Prop} (hm : ∀ b, rd b → rd' b) : ∀ {outs : List RM} {ps : List PV} {vs : List Value} {bs : List Nat}, ResRel w n0 rd outs ps vs bs → ResRel w n0 rd' outs ps vs bs := by
  intro outs
  induction outs with
  | nil => intro ps vs bs h; cases ps <;> exact h
  | cons m ms ih =>
    intro ps vs bs h
    cases ps with
    | nil => cases m <;> exact h
    | cons p ps =>
      have hm' : ∀ b, rd b → rd' b ∧ w.heap[b]? = w.heap[b]? := fun b hb => ⟨hm b hb, rfl⟩
      cases m with
      | v k =>
        obtain ⟨v, vs', rfl, hk, h1, h2⟩ := h
        exact ⟨v, vs', rfl, hk, VR_mono hm' h1, ih h2⟩
      | c k =>
        obtain ⟨pk, pv⟩ := p
        cases pk with
        | slice k' =>
          obtain ⟨v, vs', rfl, hk, hA, h1, h2⟩ := h
          exact ⟨v, vs', rfl, hk, hA, RC_mono hm' h1, ih h2⟩
        | _ => exact h
      | o ty k fl =>
        obtain ⟨pk, pv⟩ := p
        cases pk with
        | slice k' =>
          obtain ⟨v, vs', bs', vals, rfl, hk, hb, h1, h2, h3, h4⟩ := h
          exact ⟨v, vs', bs', vals, rfl, hk, hb, h1, RL_imp (fun x c hx => RC_mono hm' hx) h2, h3, ih h4⟩
        | _ => exact h
theorem results_run {fn : Func} {a : Act} {w : World} {vs : List Value} {rs : List ResultVar} (hr : fn.results.toList = rs) (h : (rs.mapM (resRun a)).run P w = .ok vs w) :
    (results fn a.tmps).run P w = .ok (resVal vs) w := by
  subst hr
  have hres : results fn a.tmps = (fn.results.mapM (resRun a) >>= fun vs => pure (if h : vs.size = 1 then vs[0] else .tuple vs)) := by
    unfold results
    congr 1
  have hmap : (fn.results.mapM (resRun a)).run P w = .ok vs.toArray w := by
    rw [Array.mapM_eq_mapM_toList]
    simp only [map_eq_pure_bind, Sem.run_bind, h, Result.andThen_ok, Sem.run_pure]
  rw [hres, Sem.run_bind, hmap]
  simp only [Result.andThen_ok, Sem.run_pure]
  congr 1
  match vs with
  | [] => rfl
  | [v] => rfl
  | _ :: _ :: _ => rfl
theorem fin_ok {fn : Func} (hτ : TauOK P e.τ) (hr : fn.results.toList = e.res) {ρ : Nat → Value} {s : St} {a : Act} {w : World} (I : Inv C ρ s a w) {y : Leafs (RM.ks outs)} (h : fin e s = some y) :
    ∃ v, (results fn a.tmps).run P w = .ok v w ∧ ResR C.w0 w C.ok outs (unL (RM.ks outs) y) v := by
  unfold fin at h
  split at h
  · rename_i hnd
    split at h
    · rename_i l hl
      rw [leafs_unL h]
      obtain ⟨vs, bs, h1, h2, h3, h4, h5⟩ := resE_ok hτ I (rd := fun b => b < w.heap.size ∧ (C.ok b ∨ C.w0.heap.size ≤ b) ∧ ∀ i ∈ outIds e s outs e.res, ∀ r, s.h i = some r → r.wr = true → blk (ρ i) ≠ some b)
        (fun b hb => ⟨hb.1, hb.2.1, fun i hi r hr hw => hb.2.2 i r hr hw⟩)
        (fun id hid r hr b hb => by
          have hlt := (I.rows id r hr).blk_lt hb
          exact ⟨hlt.2, .inr hlt.1, fun i hi r' hr' hw he => hid (by rw [I.inj id i r r' b hr hr' hb he]; exact hi)⟩) _ _ _ hl (fun i hi => hi)
      refine ⟨resVal vs, results_run hr h1, vs, bs, rfl, h5 (nodup_spec hnd), ResRel_mono (fun b hb => ⟨hb.1, hb.2.1, fun hm => ?_⟩) h2⟩
      obtain ⟨i, hi, ⟨r, hr, hw⟩, hb2⟩ := h4 b hm
      exact hb.2.2 i hi r hr hw hb2
    · cases h
  · cases h
/-- The state in which a function begins. -/
def argT : Nat → List IM → List PV → Nat → AV
  | _, [], _ => fun _ => .u
  | i, .v _ :: is, p :: l => upd (argT (i + 1) is l) i (.p p.k p.v)
  | i, .pl _ :: is, p :: l => upd (argT (i + 1) is l) i (.fe p.k p.v)
  | i, .f g ks :: is, l => upd (argT (i + 1) is (capsT ks l).2) i (.fn g (capsT ks l).1)
  | _, _, [] => fun _ => .u
def init (ins : List IM) (x : Leafs (IM.ks ins)) : St := ⟨argT 0 ins (unL (IM.ks ins) x), fun _ => none⟩
theorem PVs_len {w : World} {ok : Nat → Prop} : ∀ {is : List IM} {l : List PV} {vs : List Value}, PVs w ok is l vs → vs.length = is.length := by
  intro is
  induction is with
  | nil => intro l vs h; rw [h.2]; rfl
  | cons m is ih =>
    intro l vs h
    cases m with
    | v k => cases l with
      | nil => exact absurd h (by simp [PVs])
      | cons p l => obtain ⟨v, vs', rfl, _, h2⟩ := h; simp [ih h2]
    | pl k => cases l with
      | nil => exact absurd h (by simp [PVs])
      | cons p l => obtain ⟨v, vs', rfl, _, h2⟩ := h; simp [ih h2]
    | f g ks => obtain ⟨c, vs', rfl, _, h2⟩ := h; simp [ih h2]
theorem caps_rel {E : RE} {w : World} {ok : Nat → Prop} (hw : E.w = w) (hok : ∀ b, ok b → E.rd b) : ∀ {ks : List K} {l : List PV} {c : List Value}, CapR w ok ks l c → rels E (capsT ks l).1 c
  | [], l, c, h => h
  | k :: ks, p :: l, c, h => by
    obtain ⟨u, c', rfl, h1, h2⟩ := h
    subst hw
    exact ⟨u, c', rfl, FE_mono (fun b hb => ⟨hok b hb, rfl⟩) h1, caps_rel rfl hok h2⟩
  | k :: ks, [], c, h => h.elim
theorem argT_rel {E : RE} {w : World} {ok : Nat → Prop} (hw : E.w = w) (hok : ∀ b, ok b → E.rd b) : ∀ {is : List IM} {l : List PV} {vs : List Value} {i : Nat} (t : Array Value), PVs w ok is l vs → (∀ j v, vs[j]? = some v → t.getD (i + j) undef = v) → ∀ n, rel E (argT i is l n) (t.getD n undef) := by
  intro is
  induction is with
  | nil => intro l vs i t h ht n; simp [argT, rel]
  | cons m is ih =>
    intro l vs i t h ht n
    have step : ∀ {v : Value} {vs' : List Value} {l' : List PV} {av : AV}, vs = v :: vs' → rel E av v → PVs w ok is l' vs' → rel E (upd (argT (i + 1) is l') i av n) (t.getD n undef) := by
      intro v vs' l' av e h1 h2
      subst e
      by_cases hn : n = i
      · subst hn
        have := ht 0 v rfl
        rw [Nat.add_zero] at this
        rw [upd_same, this]
        exact h1
      · rw [upd_other _ _ hn]
        exact ih (i := i + 1) t h2 (fun j u hj => by
          rw [show i + 1 + j = i + (j + 1) by omega]; exact ht (j + 1) u (by simpa using hj)) n
    cases m with
    | v k => cases l with
      | nil => exact absurd h (by simp [PVs])
      | cons p l =>
        obtain ⟨v, vs', e, h1, h2⟩ := h
        subst hw
        exact step e (VR_mono (fun b hb => ⟨hok b hb, rfl⟩) h1) h2
    | pl k => cases l with
      | nil => exact absurd h (by simp [PVs])
      | cons p l =>
        obtain ⟨v, vs', e, h1, h2⟩ := h
        subst hw
        exact step e (FE_mono (fun b hb => ⟨hok b hb, rfl⟩) h1) h2
    | f g ks =>
      obtain ⟨c, vs', e, h1, h2⟩ := h
      exact step (av := .fn g (capsT ks l).1) e ⟨c, rfl, caps_rel hw hok h1⟩ h2
theorem init_ok {ins : List IM} {x : Leafs (IM.ks ins)} {w : World} {ok : Nat → Prop} (hok : ∀ b, ok b → b < w.heap.size) {args : Array Value} {n : Nat} (hn : ins.length ≤ n) (h : PVs w ok ins (unL (IM.ks ins) x) args.toList) :
    Inv ⟨w, ok, n⟩ (fun _ => undef) (init ins x) { tmps := args ++ Array.replicate (n - args.size) undef, defers := [] } w := by
  have hlen : args.size = ins.length := by
    have := PVs_len h
    simpa using this
  refine ⟨rfl, by simp; omega, Below.refl _ _, fun id row h => (by cases h), fun id id' r r' b h => (by cases h), fun i => ?_⟩
  refine argT_rel (E := envOf ⟨w, ok, n⟩ (fun _ => undef) (fun _ => none) w) (w := w) (ok := ok) rfl (fun b hb => ⟨hok b hb, .inl hb, fun id row h => by cases h⟩) _ h (fun j v hj => ?_) i
  rw [Nat.zero_add]
  have hj' : args[j]? = some v := by simpa using hj
  obtain ⟨hlt, hv⟩ := Array.getElem?_eq_some_iff.1 hj'
  simp only [Array.getD_eq_getD_getElem?]
  rw [Array.getElem?_append_left hlt, hj']
  rfl
/-- A function does what its plain function says. -/
theorem fn_ok {f : Nat} {fn : Func} {c : Code} {ins : List IM} {F : Leafs (IM.ks ins) → Option (Leafs (RM.ks outs))}
    (hf : P.funcs[f]? = some fn) (hb : fn.body = some c) (hname : (fn.name != "runtime.NumGoroutine") = true) (hmix : P.follows .mixedOrders = true)
    (hτ : TauOK P e.τ) (hΓ : ∀ f sp, e.Γ f = some sp → SpecOK P f sp) (hn : e.n = fn.ntmps) (hi : ins.length ≤ fn.ntmps) (hr : fn.results.toList = e.res)
    (hl : ∀ C : Cx, e.n = C.n → Loops P C e c)
    (hc : ∀ x, codeE e c (fun _ _ => none) some (fun s => fin e s) (init ins x) = F x) : SpecOK P f ⟨ins, outs, F⟩ where
  enters := by rw [hf]; simp only [Option.any_some, hname, hb, Option.isSome_some, Bool.and_self]
  calls := by
    intro x y hy w ok args hok hpv
    refine calls_of_wp hf hb ?_
    have hlen : args.size = ins.length := by
      have := PVs_len hpv
      simpa using this
    have I := init_ok (n := fn.ntmps) hok hi hpv
    have hy : F x = some y := hy
    rw [← hc] at hy
    have done : ∀ ρ s a w', Inv ⟨w, ok, fn.ntmps⟩ ρ s a w' → fin e s = some y → a.defers = [] ∧ ∃ v, (results fn a.tmps).run P w' = .ok v w' ∧ (∃ v', Ending.returned v = .returned v' ∧ Below w.heap.size w w' ∧ ResR w w' ok outs (unL (RM.ks outs) y) v') := by
      intro ρ s a w' I hfin
      obtain ⟨v, h1, h2⟩ := fin_ok hτ hr I hfin
      exact ⟨I.hd, v, h1, v, rfl, I.fr, h2⟩
    refine code_ok ⟨hτ, hn, hΓ⟩ hmix c (hl _ hn) _ _ _ _ y hy _ _ _ I _ (fun ρ' s' a' w' h' I' => done ρ' s' a' w' I' h') (fun j ρ' s' a' w' h' I' => by cases h') (fun z a' w' h' hf => ?_)
    simp only [Option.some.injEq] at h'
    subst h'
    obtain ⟨ρ2, s2, I2, hf2⟩ := hf
    exact done ρ2 s2 a' w' I2 hf2
end Go.Proofs.Ytiaafpihoikeeaa.Den
