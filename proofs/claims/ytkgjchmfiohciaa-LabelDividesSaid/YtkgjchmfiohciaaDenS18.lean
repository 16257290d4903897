/- Operations whose order is open. -/
import Derived.Test.YtkgjchmfiohciaaDenS17
namespace Go.Proofs.Ytkgjchmfiohciaa.Den
open Go.RowKit
set_option linter.unusedVariables false
set_option linter.unusedSimpArgs false
variable {P : Program} {C : Cx} {outs : List RM} {e : Env outs}
section congr
variable {τ : Nat → Option Ty} {ev ev' : Operand → AV} {h : Nat → Option Row}
theorem buildL_congr {fs : List (Nat × Nat)} : ∀ (ps : List (Nat × Operand)) (cs : List AV), (∀ p ∈ ps, ev p.2 = ev' p.2) → buildL τ ev fs ps cs = buildL τ ev' fs ps cs
  | [], cs, _ => rfl
  | p :: ps, cs, hh => by
    simp only [buildL]
    rw [hh p (by simp)]
    split
    · split
      · split
        · exact buildL_congr ps _ fun q hq => hh q (List.mem_cons_of_mem _ hq)
        · rfl
      · rfl
    · rfl
theorem setL_congr {k : K} : ∀ (ps : List (Nat × Operand)) (xs : List (T k)), (∀ p ∈ ps, ev p.2 = ev' p.2) → setL ev h k ps xs = setL ev' h k ps xs
  | [], xs, _ => rfl
  | p :: ps, xs, hh => by
    simp only [setL]
    rw [hh p (by simp)]
    split
    · split
      · exact setL_congr ps _ fun q hq => hh q (List.mem_cons_of_mem _ hq)
      · rfl
    · rfl
theorem bound_congr {d : Int} : ∀ {q : Option Operand}, (∀ x ∈ q, ev x = ev' x) → bound ev d q = bound ev' d q
  | none, _ => rfl
  | some q, hh => by simp only [bound]; rw [hh q rfl]
theorem effE_congr (o : Oper) (hh : ∀ x ∈ o.op.operands, ev x = ev' x) : effE e ev h o = effE e ev' h o := by
  obtain ⟨dst, op, type, pos, after, guard⟩ := o
  cases op <;> simp only [Op.operands] at hh
  case move x => simp only [effE, effS]; rw [hh x (by simp)]
  case assign x => simp only [effE, effS]; rw [hh x (by simp)]
  case pick c a b => simp only [effE, effS]; rw [hh c (by simp), hh a (by simp), hh b (by simp)]
  case binOp op t x y t' => simp only [effE, effS]; rw [hh x (by simp), hh y (by simp)]
  case unOp op t x => cases op <;> simp only [effE, effS] <;> rw [hh x (by simp)]
  case extract t i => simp only [effE, effS]; rw [hh t (by simp)]
  case convert a b x => simp only [effE, effS]; rw [hh x (by simp)]
  case fieldAddr t x f => simp only [effE, effS]; rw [hh x (by simp)]
  case field t x f => simp only [effE, effS]; rw [hh x (by simp)]
  case indexAddr t x i => simp only [effE, effS]; rw [hh x (by simp), hh i (by simp)]
  case index t x i => simp only [effE, effS]; rw [hh x (by simp), hh i (by simp)]
  case load t x => simp only [effE, effS]; rw [hh x (by simp)]
  case store t x y => simp only [effE, effS]; rw [hh x (by simp), hh y (by simp)]
  case box t x => simp only [effE, effS]; rw [hh x (by simp)]
  case makeSlice t x y => simp only [effE, effS]; rw [hh x (by simp), hh y (by simp)]
  case slice t x lo hi mx =>
    have hx := hh x (by simp)
    have hlo : ∀ (d : Int), bound ev d lo = bound ev' d lo := fun d => bound_congr fun y hy => hh y (by cases hy; simp)
    have hhi : ∀ (d : Int), bound ev d hi = bound ev' d hi := fun d => bound_congr fun y hy => hh y (by cases hy; simp)
    simp only [effE, effS]
    rw [hx]
    cases mx with
    | none => simp only [hlo, hhi]
    | some q =>
      have hq : ev q = ev' q := hh q (by simp)
      simp only [hlo, hhi, hq]
  case build t ps =>
    simp only [effE, effS]
    have h2 : ∀ fs cs, buildL e.τ ev fs ps.toList cs = buildL e.τ ev' fs ps.toList cs := fun fs cs => buildL_congr _ _ fun p hp => hh p.2 (by
      have := Array.mem_toList_iff.1 hp
      simpa using ⟨p.1, this⟩)
    have h3 : ∀ (k : K) xs, setL ev h k ps.toList xs = setL ev' h k ps.toList xs := fun k xs => setL_congr _ _ fun p hp => hh p.2 (by
      have := Array.mem_toList_iff.1 hp
      simpa using ⟨p.1, this⟩)
    simp only [h2, h3]
  case sliceToArrayPointer t x => simp only [effE, effS]; rw [hh x (by simp)]
  case nilCheck x => simp only [effE, effS]; rw [hh x (by simp)]
  case makeFunc fn fs cs =>
    have : cs.toList.map ev = cs.toList.map ev' := List.map_congr_left fun x hx => hh x (by simp; exact .inr (Array.mem_toList_iff.1 hx))
    cases fn with
    | func f => simp only [effE, effS, this]
    | _ => simp only [effE, effS]
  case buildSlice t n ps =>
    simp only [effE, effS]
    have h2 : ∀ (k : K) xs, setL ev h k ps.toList xs = setL ev' h k ps.toList xs := fun k xs => setL_congr _ _ fun p hp => hh p.2 (by
      have := Array.mem_toList_iff.1 hp
      simpa using ⟨p.1, this⟩)
    simp only [h2]
  case call c =>
    obtain ⟨callee, args, ts⟩ := c
    cases callee with
    | value f =>
      simp only [effE]
      rw [hh f (by simp [Call.operands])]
      have : args.toList.map ev = args.toList.map ev' := List.map_congr_left fun x hx => hh x (by simp [Call.operands]; exact .inr (Array.mem_toList_iff.1 hx))
      rw [this]
    | builtin b =>
      have hm : ∀ x ∈ args.toList, ev x = ev' x := fun x hx => hh x (by simp [Call.operands]; exact Array.mem_toList_iff.1 hx)
      simp only [effE, effS, effCall]
      cases b <;> simp only [] <;> first
        | rfl
        | (simp only [effLen]; split
           · rename_i x t hq ht
             rw [hm x (by rw [hq]; simp)]
           · rfl)
        | (simp only [effMM]; split
           · rename_i x y hq
             rw [hm x (by rw [hq]; simp), hm y (by rw [hq]; simp)]
           · rfl)
        | (simp only [effAppend]; split
           · rename_i x y t t' hq ht
             simp only [effAppendStr]
             rw [hm x (by rw [hq]; simp), hm y (by rw [hq]; simp)]
           · rfl)
        | (simp only [effCopy]; split
           · rename_i x y t t' hq ht
             rw [hm x (by rw [hq]; simp), hm y (by rw [hq]; simp)]
           · rfl)
    | invoke r m => simp only [effE, effS]
  all_goals first | (simp only [effE, effS]; done) | rfl
end congr
theorem foot_congr {s s' : St} {o : Oper} (hh : ∀ x ∈ o.op.operands, s.ev x = s'.ev x) (hhh : ∀ i ∈ foot s o, s.h i = s'.h i) : foot s o = foot s' o := by
  have : o.op.operands.toList.flatMap (fun x => (s.ev x).ids) = o.op.operands.toList.flatMap fun x => (s'.ev x).ids := by
    have key : ∀ l : List Operand, (∀ x ∈ l, s.ev x = s'.ev x) → l.flatMap (fun x => (s.ev x).ids) = l.flatMap fun x => (s'.ev x).ids := by
      intro l
      induction l with
      | nil => intro _; rfl
      | cons x l ih =>
        intro h
        rw [List.flatMap_cons, List.flatMap_cons, h x (by simp), ih fun y hy => h y (List.mem_cons_of_mem _ hy)]
    exact key _ fun x hx => hh x (Array.mem_toList_iff.1 hx)
  have hr : ∀ c, o.op = .call c → reach s.h (o.op.operands.toList.flatMap fun x => (s.ev x).ids) = reach s'.h (o.op.operands.toList.flatMap fun x => (s.ev x).ids) := by
    intro c hc
    unfold reach
    congr 1
    have hin : ∀ i ∈ o.op.operands.toList.flatMap (fun x => (s.ev x).ids), s.h i = s'.h i := by
      intro i hi
      refine hhh i ?_
      unfold foot
      rw [hc] at hi ⊢
      cases o.dst with
      | none => exact List.mem_append_left _ hi
      | some d => exact List.mem_append_right _ (List.mem_append_left _ hi)
    have key : ∀ l : List Nat, (∀ i ∈ l, s.h i = s'.h i) → (l.flatMap fun i => match s.h i with | some ⟨_, _, _, .cells cs⟩ => AV.idss cs | _ => []) = l.flatMap fun i => match s'.h i with | some ⟨_, _, _, .cells cs⟩ => AV.idss cs | _ => [] := by
      intro l
      induction l with
      | nil => intro _; rfl
      | cons x l ih =>
        intro h
        rw [List.flatMap_cons, List.flatMap_cons, h x (by simp), ih fun y hy => h y (List.mem_cons_of_mem _ hy)]
    exact key _ hin
  unfold foot
  cases hop : o.op with
  | call c =>
    have hr := hr c hop
    rw [hop] at hr this
    rw [this] at hr
    simp only [hr, this]
  | _ => (rw [hop] at this; try simp only [this])
/-- Two states that an operation cannot tell apart. -/
structure Alike (ops : Array Oper) (s s' : St) (o : Oper) : Prop where
  t : ∀ i ∈ looks ops o, s.t i = s'.t i
  h : ∀ i ∈ foot s o, s.h i = s'.h i
theorem Alike.ev {ops : Array Oper} {s s' : St} {o : Oper} (a : Alike ops s s' o) : ∀ x ∈ o.op.operands, s.ev x = s'.ev x := by
  intro x hx
  cases x with
  | tmp t =>
    show (bif Nat.blt t 5000000 then s.t t else .u) = (bif Nat.blt t 5000000 then s'.t t else .u)
    rw [a.t t]
    unfold looks
    refine List.mem_append_left _ (List.mem_filterMap.2 ⟨.tmp t, Array.mem_toList_iff.2 hx, rfl⟩)
  | _ => rfl
theorem restr_congr {f : List Nat} {h h' : Nat → Option Row} (hh : ∀ i ∈ f, h i = h' i) : restr f h = restr f h' := funext fun i => by
  unfold restr
  cases hc : f.contains i with
  | true => exact hh i (by simpa using hc)
  | false => rfl
theorem laid_congr {ev ev' : Operand → AV} {o : Oper} (hh : ∀ x ∈ o.op.operands, ev x = ev' x) : laid ev o = laid ev' o := by
  obtain ⟨dst, op, type, pos, after, guard⟩ := o
  cases op <;> try rfl
  case store t x y =>
    simp only [laid]
    rw [hh x (by simp [Op.operands]), hh y (by simp [Op.operands])]
  case buildSlice t n ps =>
    simp only [laid]
    have key : ∀ l : List (Nat × Operand), (∀ p ∈ l, ev p.2 = ev' p.2) → l.flatMap (fun p => (ev p.2).ids) = l.flatMap fun p => (ev' p.2).ids := by
      intro l
      induction l with
      | nil => intro _; rfl
      | cons x l ih =>
        intro h
        rw [List.flatMap_cons, List.flatMap_cons, h x (by simp), ih fun y hy => h y (List.mem_cons_of_mem _ hy)]
    refine key _ fun p hp => hh p.2 ?_
    have := Array.mem_toList_iff.1 hp
    simp only [Op.operands]
    simpa using ⟨p.1, this⟩
theorem opG_alike {ops : Array Oper} {s s' : St} {o : Oper} (a : Alike ops s s' o) : opG e ops s o = opG e ops s' o ∧ foot s o = foot s' o := by
  have hf := foot_congr (s := s) (s' := s') a.ev a.h
  refine ⟨?_, hf⟩
  have hE : opE e s o = opE e s' o := by
    unfold opE
    rw [← hf, restr_congr a.h, effE_congr (e := e) o a.ev, laid_congr a.ev]
  unfold opG
  rw [hE]
  cases hg : o.guard with
  | none => rfl
  | some gw =>
    obtain ⟨g, want⟩ := gw
    simp only
    cases ht : (ops[g]?).bind (·.dst) with
    | none => rfl
    | some t =>
      simp only
      have : s.t t = s'.t t := a.t t (by
        unfold looks
        rw [hg]
        simp only [ht]
        exact List.mem_append_right _ (by simp))
      have this : s.ev (.tmp t) = s'.ev (.tmp t) := by
        show (bif Nat.blt t 5000000 then s.t t else .u) = (bif Nat.blt t 5000000 then s'.t t else .u)
        rw [this]
      rw [this]
theorem disj_spec {a b : List Nat} (h : disj a b = true) : ∀ i ∈ a, i ∉ b := by
  intro i hi hb
  unfold disj at h
  have := List.all_eq_true.1 h i hi
  simp at this
  exact this hb
structure StepAt {outs : List RM} (e : Env outs) (ops : Array Oper) (s : St) (d : Done) (E : Eff) : Prop where
  sem : (opG e ops s d.o).sem = some E
  w : d.w = E.u.map (·.1)
  f : d.f = E.u.map (·.1) ++ foot s d.o
theorem putD_at {t : Nat → AV} {dst : Option Tmp} {v : AV} {i : Nat} (h : i ∉ dst.toList) : putD t dst v i = t i := by
  cases dst with
  | none => rfl
  | some d => exact upd_other _ _ (fun e => h (by simp [e]))
theorem hupd_at : ∀ {L : List (Nat × Row)} {h : Nat → Option Row} {i : Nat}, i ∉ L.map (·.1) → hupd h L i = h i
  | [], h, i, _ => rfl
  | p :: L, h, i, hi => by
    simp only [List.map_cons, List.mem_cons, not_or] at hi
    simp only [hupd]
    rw [hupd_at hi.2, upd_other _ _ hi.1]
theorem hupd_same : ∀ {L : List (Nat × Row)} {h h' : Nat → Option Row} {i : Nat}, i ∈ L.map (·.1) → hupd h L i = hupd h' L i
  | [], h, h', i, hi => by simp at hi
  | p :: L, h, h', i, hi => by
    simp only [hupd]
    by_cases e : i ∈ L.map (·.1)
    · exact hupd_same e
    · rw [hupd_at e, hupd_at e]
      simp only [List.map_cons, List.mem_cons] at hi
      rcases hi with rfl | hi
      · rw [upd_same, upd_same]
      · exact absurd hi e
theorem app_comm {s : St} {o1 o2 : Oper} {E1 E2 : Eff} (hd : disj o1.dst.toList o2.dst.toList = true) (hw : ∀ i ∈ E1.u.map (·.1), i ∉ E2.u.map (·.1)) : (s.app o1.dst E1).app o2.dst E2 = (s.app o2.dst E2).app o1.dst E1 := by
  unfold St.app
  simp only [St.mk.injEq]
  constructor
  · funext i
    have hd' := disj_spec hd
    by_cases h1 : i ∈ o1.dst.toList
    · have h2 := hd' i h1
      rw [putD_at h2]
      cases h : o1.dst with
      | none => rw [h] at h1; simp at h1
      | some d =>
        rw [h] at h1
        simp at h1
        subst h1
        show upd s.t i _ i = upd _ i _ i
        rw [upd_same, upd_same]
    · rw [putD_at (t := putD s.t o2.dst E2.v) h1]
      by_cases h2 : i ∈ o2.dst.toList
      · cases h : o2.dst with
        | none => rw [h] at h2; simp at h2
        | some d =>
          rw [h] at h2
          simp at h2
          subst h2
          show upd _ i _ i = upd _ i _ i
          rw [upd_same, upd_same]
      · rw [putD_at h2, putD_at h2, putD_at h1]
  · funext i
    by_cases h1 : i ∈ E1.u.map (·.1)
    · rw [hupd_at (hw i h1)]
      exact hupd_same h1
    · rw [hupd_at (L := E1.u) h1]
      by_cases h2 : i ∈ E2.u.map (·.1)
      · exact hupd_same h2
      · rw [hupd_at h2, hupd_at h2, hupd_at h1]
/-- Two neighbours change places. -/
theorem swap {ops : Array Oper} {s : St} {d1 d2 : Done} {E1 E2 : Eff} (h1 : StepAt e ops s d1 E1) (h2 : StepAt e ops (s.app d1.o.dst E1) d2 E2) (hi : indep ops d1 d2 = true) :
    StepAt e ops s d2 E2 ∧ StepAt e ops (s.app d2.o.dst E2) d1 E1 ∧ (s.app d1.o.dst E1).app d2.o.dst E2 = (s.app d2.o.dst E2).app d1.o.dst E1 := by
  unfold indep at hi
  simp only [Bool.and_eq_true] at hi
  obtain ⟨⟨⟨⟨i1, i2⟩, i3⟩, i4⟩, i5⟩ := hi
  have i1 := disj_spec i1
  have i2 := disj_spec i2
  have i4 := disj_spec i4
  have i5 := disj_spec i5
  have a1 : Alike ops (s.app d1.o.dst E1) s d2.o := by
    refine ⟨fun i hi => putD_at (fun h => i1 i h hi), fun i hi => hupd_at (fun h => i4 i (by rw [h1.w]; exact h) (by rw [h2.f]; exact List.mem_append_right _ hi))⟩
  obtain ⟨e1, e2⟩ := opG_alike (e := e) a1
  have s2 : StepAt e ops s d2 E2 := ⟨by rw [← e1]; exact h2.sem, h2.w, by rw [← e2]; exact h2.f⟩
  have a2 : Alike ops s (s.app d2.o.dst E2) d1.o := by
    refine ⟨fun i hi => (putD_at (fun h => i2 i h hi)).symm, fun i hi => (hupd_at (fun h => i5 i (by rw [h2.w]; exact h) (by rw [h1.f]; exact List.mem_append_right _ hi))).symm⟩
  obtain ⟨e3, e4⟩ := opG_alike (e := e) a2
  refine ⟨s2, ⟨by rw [← e3]; exact h1.sem, h1.w, by rw [← e4]; exact h1.f⟩, app_comm i3 fun i hi1 hi2 => ?_⟩
  refine i5 i (by rw [h2.w]; exact hi2) ?_
  rw [h1.f]
  exact List.mem_append_left _ hi1
inductive Chain {outs : List RM} (e : Env outs) (ops : Array Oper) : St → List (Done × Eff) → St → Prop
  | nil (s : St) : Chain e ops s [] s
  | cons {s s' : St} {d : Done} {E : Eff} {l : List (Done × Eff)} (h : StepAt e ops s d E) (r : Chain e ops (s.app d.o.dst E) l s') : Chain e ops s ((d, E) :: l) s'
theorem anc_direct {ops : Array Oper} {n : Nat} {o : Oper} {i : Nat} (h : direct o i = true) : anc ops (n + 1) o i = true := by
  unfold direct at h
  unfold anc
  obtain ⟨z, hz, hz2⟩ := Array.any_eq_true'.1 h
  simp only [Bool.and_eq_true] at hz2
  refine Array.any_eq_true'.2 ⟨z, hz, ?_⟩
  rw [hz2.1, hz2.2]; rfl
def Free (ops : Array Oper) (a b : Done × Eff) : Prop := anc ops 5 b.1.o a.1.i = true ∨ indep ops a.1 b.1 = true
theorem Chain.front {ops : Array Oper} {s' : St} {x : Done × Eff} {l2 : List (Done × Eff)} : ∀ {l1 : List (Done × Eff)} {s : St}, Chain e ops s (l1 ++ x :: l2) s' → (∀ y ∈ l1, indep ops y.1 x.1 = true) → Chain e ops s (x :: (l1 ++ l2)) s'
  | [], s, h, _ => h
  | (d, E) :: l1, s, h, hi => by
    cases h with
    | cons h1 r =>
      have h2 := Chain.front r fun y hy => hi y (List.mem_cons_of_mem _ hy)
      cases h2 with
      | cons h3 r2 =>
        obtain ⟨s1, s2, s3⟩ := swap h1 h3 (hi (d, E) (by simp))
        rw [s3] at r2
        exact .cons s1 (.cons s2 r2)
/-- What is told of a region whose order is open. -/
theorem opsD_chain {ops : Array Oper} {X : Type} {c : St → Option X} {r : X} : ∀ (l : List Oper) (i : Nat) (ds : List Done) (s : St), (∀ j, l[j]? = ops[i + j]?) → opsD e ops i l ds s c = some r →
    ∃ s' cl, c s' = some r ∧ Chain e ops s cl s' ∧ cl.map (fun x => (x.1.i, x.1.o)) = (List.range l.length).zipWith (fun j o => (i + j, o)) l ∧
      cl.Pairwise (Free ops) ∧ (∀ d ∈ ds, ∀ x ∈ cl, anc ops 5 x.1.o d.i = true ∨ indep ops d x.1 = true) ∧ (∀ x ∈ cl, ∀ y ∈ x.1.o.after, Region.binds .any y = true → y.on < x.1.i)
  | [], i, ds, s, hl, h => ⟨s, [], h, .nil s, rfl, .nil, fun d hd x hx => by simp at hx, fun x hx => by simp at hx⟩
  | o :: l, i, ds, s, hl, h => by
    simp only [opsD] at h
    obtain ⟨E, hE, h2⟩ := run_some (told_some h)
    cases hc : ((ds.all fun d' => direct o d'.i || indep ops d' ⟨i, o, E.u.map (·.1), E.u.map (·.1) ++ foot s o⟩ || anc ops 5 o d'.i) && (o.after.all fun x => !Region.binds .any x || Nat.blt x.on i)) with
    | false => rw [hc] at h2; cases h2
    | true =>
      rw [hc] at h2
      simp only [cond_true] at h2
      simp only [Bool.and_eq_true] at hc
      obtain ⟨hc1, hc2⟩ := hc
      obtain ⟨s', cl, h3, h4, h5, h6, h7, h8⟩ := opsD_chain l (i + 1) _ _ (fun j => by have := hl (j + 1); simpa [Nat.add_assoc, Nat.add_comm 1 j] using this) h2
      refine ⟨s', (⟨i, o, E.u.map (·.1), E.u.map (·.1) ++ foot s o⟩, E) :: cl, h3, .cons ⟨hE, rfl, rfl⟩ h4, ?_, ?_, ?_, ?_⟩
      · rw [List.map_cons, h5]
        rw [List.length_cons, List.range_succ_eq_map, List.zipWith_cons_cons, List.zipWith_map_left]
        simp only [Nat.add_zero, Nat.succ_eq_add_one]
        congr 1
        congr 1
        funext j o
        congr 1
        omega
      · exact List.pairwise_cons.2 ⟨fun x hx => h7 _ (by simp) x hx, h6⟩
      · intro d hd x hx
        rcases List.mem_cons.1 hx with rfl | hx
        · have := List.all_eq_true.1 hc1 d hd
          simp only [Bool.or_eq_true] at this
          rcases this with (h | h) | h
          · exact .inl (anc_direct h)
          · exact .inr h
          · exact .inl h
        · exact h7 d (List.mem_cons_of_mem _ hd) x hx
      · intro x hx y hy hb
        rcases List.mem_cons.1 hx with rfl | hx
        · have := Array.all_eq_true'.1 hc2 y hy
          rw [hb] at this
          simp only [Bool.not_true, Bool.false_or] at this
          exact Nat.le_of_ble_eq_true this
        · exact h8 x hx y hy hb
end Go.Proofs.Ytkgjchmfiohciaa.Den
