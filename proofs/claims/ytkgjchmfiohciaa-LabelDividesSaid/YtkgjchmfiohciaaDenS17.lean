/- Operations one after another. -/
import Derived.Test.YtkgjchmfiohciaaDenS16
namespace Go.Proofs.Ytkgjchmfiohciaa.Den
open Go.RowKit
set_option linter.unusedVariables false
set_option linter.unusedSimpArgs false
variable {P : Program} {C : Cx} {outs : List RM} {e : Env outs}
structure EnvOK (P : Program) (C : Cx) {outs : List RM} (e : Env outs) : Prop where
  τ : TauOK P e.τ
  n : e.n = C.n
  Γ : ∀ f sp, e.Γ f = some sp → SpecOK P f sp
theorem restr_sub {f : List Nat} {h : Nat → Option Row} : ∀ id row, restr f h id = some row → h id = some row := by
  intro id row hr
  unfold restr at hr
  cases hc : f.contains id with
  | true => rw [hc] at hr; exact hr
  | false => rw [hc] at hr; cases hr
theorem restr_mem {f : List Nat} {h : Nat → Option Row} {id : Nat} (hm : id ∈ f) : restr f h id = h id := by
  unfold restr
  have : f.contains id = true := by simpa using hm
  rw [this]; rfl
theorem inner_flat {h : Nat → Option Row} : ∀ {l : List Nat} {i : Nat}, i ∈ inner h l → i ∈ l.flatMap fun i => match h i with | some ⟨_, _, _, .cells cs⟩ => AV.idss cs | _ => []
  | [], i, hi => by simp [inner] at hi
  | j :: l, i, hi => by
    simp only [List.flatMap_cons, List.mem_append]
    simp only [inner] at hi
    split at hi
    · rename_i hh
      rcases List.mem_append.1 hi with hi | hi
      · left; simp only [hh]; exact hi
      · exact .inr (inner_flat hi)
    · exact .inr (inner_flat hi)
theorem effE_does (he : EnvOK P C e) {s : St} {o : Oper} {E : Eff} {h' : Nat → Option Row} (hsub : ∀ id row, h' id = some row → s.h id = some row) (hf : ∀ i ∈ foot s o, h' i = s.h i) (h : (effE e s.ev h' o).sem = some E) : DoesW P C s o E := by
  have hd' : ∀ d, o.dst = some d → h' d = s.h d := by
    intro d hd
    refine hf d ?_
    unfold foot
    rw [hd]
    simp only
    split <;> simp
  by_cases hcall : ∃ fop qs ts, o.op = .call { callee := .value fop, args := qs, argTypes := ts }
  · obtain ⟨fop, qs, ts, ho⟩ := hcall
    cases hdst : o.dst with
    | none =>
      exfalso
      unfold effE at h
      rw [ho] at h
      simp only at h
      split at h
      · unfold callE at h
        rw [hdst] at h
        split at h
        · rename_i hh; cases hh
        · simp [Dec.sem] at h
      · simp [Dec.sem] at h
    | some d =>
      refine does_call he.Γ hsub ho hdst (fun i hi => hf i ?_) (fun j hj => hf _ ?_) h
      · unfold foot
        rw [hdst, ho]
        refine List.mem_append_right _ ?_
        have hsw : ∀ j, j ∈ (qs.toList.flatMap fun x => (s.ev x).ids) ++ (s.ev fop).ids → j ∈ (Op.call { callee := .value fop, args := qs, argTypes := ts }).operands.toList.flatMap fun x => (s.ev x).ids := by
          intro j hj
          simp only [Op.operands, Call.operands, Array.toList_append, List.flatMap_append, List.mem_append]
          rcases List.mem_append.1 hj with hj | hj
          · exact .inr hj
          · exact .inl (by simpa using hj)
        show i ∈ reach s.h _
        rcases hi with hi | hi
        · exact List.mem_append_left _ (hsw i hi)
        · exact List.mem_append_right _ (inner_flat (inner_sub hsw hi))
      · unfold foot
        rw [hdst, ho]
        simp only
        refine List.mem_append_left _ (List.mem_cons_of_mem _ ?_)
        exact List.mem_map.2 ⟨j, by simpa using hj, rfl⟩
  · have : effE e s.ev h' o = effS e.τ s.ev h' o := by
      unfold effE
      split
      · rename_i f qs ts ho
        exact absurd ⟨_, _, _, ho⟩ hcall
      · rfl
    rw [this] at h
    exact (effS_does he.τ hsub hd' h).w
theorem opE_does (he : EnvOK P C e) {s : St} {o : Oper} {E : Eff} (h : (opE e s o).sem = some E) : okDst C.n o.dst = true ∧ DoesW P C s o E := by
  unfold opE at h
  cases hd : okDst e.n o.dst with
  | false => rw [hd] at h; simp [Dec.sem] at h
  | true =>
    rw [hd] at h
    simp only [cond_true] at h
    refine ⟨by rw [← he.n]; exact hd, ?_⟩
    rw [Dec.pre_sem] at h
    obtain ⟨E', hE', rfl⟩ := Option.map_eq_some_iff.1 h
    generalize hF : freeze (restr (foot s o) s.h) (laid s.ev o) = F at hE' ⊢
    have hfoot : foot ⟨s.t, hupd s.h F⟩ o = foot s o := by
      by_cases hc : ∃ c, o.op = .call c
      · obtain ⟨c, hc⟩ := hc
        have : F = [] := by rw [← hF]; unfold laid; rw [hc]; rfl
        subst this
        rfl
      · cases hop : o.op with
        | call c => exact absurd ⟨c, hop⟩ hc
        | _ => (simp only [foot, hop]; try rfl)
    have key : DoesW P C ⟨s.t, hupd s.h F⟩ o E' := effE_does (s := ⟨s.t, hupd s.h F⟩) he (hupd_sub F restr_sub) (fun i hi => hupd_eqAt F (restr_mem (by rw [hfoot] at hi; exact hi))) hE'
    intro ρ a w I next Q hn
    obtain ⟨I1, _, _⟩ := I.freezes F s (fun p hp => by subst hF; exact freeze_mem restr_sub _ p hp)
    exact key ρ a w I1 next Q fun v w' ρ' I' hr => hn v w' ρ' (by rw [hupd_app]; exact I') (by rw [hupd_app]; exact hr)
theorem put_step {s : St} {o : Oper} {E : Eff} {a : Act} {w : World} {ρ : Nat → Value} {v : Value} (hd : okDst C.n o.dst = true) (I : Inv C ρ ⟨s.t, hupd s.h E.u⟩ a w) (hr : rel (envOf C ρ (hupd s.h E.u) w) E.v v) :
    Inv C ρ (s.app o.dst E) (a.put o.dst v) w := by
  have := Inv.put (s := ⟨s.t, hupd s.h E.u⟩) I hd hr
  unfold St.app
  exact this
theorem guard_yields {ops : Array Oper} {s : St} {a : Act} {w : World} {ρ : Nat → Value} (I : Inv C ρ s a w) {g t : Nat} {b : Bool} (hg : (ops[g]?).bind (·.dst) = some t) (hb : s.ev (.tmp t) = .p .bool b) : yielded ops a.tmps g = some b := by
  have h1 := I.ev (.tmp t)
  rw [hb, rel_bool] at h1
  have h1 : a.tmps.getD t undef = .bool b := h1
  unfold yielded
  rw [hg]
  simp only [Option.bind_some]
  have h2 : a.tmps[t]? = some (.bool b) := by
    rw [Array.getD_eq_getD_getElem?] at h1
    cases hx : a.tmps[t]? with
    | none => rw [hx] at h1; simp [undef] at h1
    | some v => rw [hx] at h1; simp at h1; rw [h1]
  rw [h2]
theorem guard_none {ops : Array Oper} {s : St} {a : Act} {w : World} {ρ : Nat → Value} (I : Inv C ρ s a w) {g t : Nat} (hg : (ops[g]?).bind (·.dst) = some t) (hb : s.ev (.tmp t) = .tup []) : yielded ops a.tmps g = none := by
  have h1 := I.ev (.tmp t)
  rw [hb] at h1
  obtain ⟨c, h1, h2⟩ := h1
  have h1 : a.tmps.getD t undef = .tuple c := h1
  have h2 : c.toList = [] := h2
  unfold yielded
  rw [hg]
  simp only [Option.bind_some]
  rw [Array.getD_eq_getD_getElem?] at h1
  cases hx : a.tmps[t]? with
  | none => rfl
  | some v => rw [hx] at h1; simp at h1; rw [h1]
theorem rel_undef {R : RE} : rel R (.tup []) undef := ⟨#[], rfl, rfl⟩
/-- One operation of a region, its guard before it. -/
theorem opG_step (he : EnvOK P C e) {ops : Array Oper} {s : St} {o : Oper} {E : Eff} (h : (opG e ops s o).sem = some E) :
    ∀ ρ a w, Inv C ρ s a w → ∀ (K : Act → World → Prop) (Q : Exit → Act → World → Prop), (∀ ρ' a' w', Inv C ρ' (s.app o.dst E) a' w' → K a' w') →
      if Region.wanted o (yielded ops a.tmps) then o.wp P a w K Q else K (a.put o.dst undef) w := by
  unfold opG at h
  cases hg : o.guard with
  | none =>
    rw [hg] at h
    obtain ⟨hd, hdo⟩ := opE_does he h
    intro ρ a w I K Q hK
    have : Region.wanted o (yielded ops a.tmps) = true := by unfold Region.wanted; rw [hg]
    rw [if_pos this]
    exact hdo ρ a w I K Q fun v w' ρ' I' hr => hK ρ' _ w' (put_step hd I' hr)
  | some gw =>
    obtain ⟨g, want⟩ := gw
    rw [hg] at h
    simp only at h
    split at h
    · simp [Dec.sem] at h
    · rename_i t ht
      split at h
      · rename_i b hb
        intro ρ a w I K Q hK
        have hy := guard_yields I ht hb
        split at h
        · rename_i hbw
          obtain ⟨hd, hdo⟩ := opE_does he h
          have : Region.wanted o (yielded ops a.tmps) = true := by unfold Region.wanted; rw [hg]; simp [hy, hbw]
          rw [if_pos this]
          exact hdo ρ a w I K Q fun v w' ρ' I' hr => hK ρ' _ w' (put_step hd I' hr)
        · rename_i hbw
          have : ¬ (Region.wanted o (yielded ops a.tmps) = true) := by unfold Region.wanted; rw [hg]; simp [hy, hbw]
          rw [if_neg this]
          cases hd : okDst e.n o.dst with
          | false => rw [hd] at h; simp [Dec.sem] at h
          | true =>
            rw [hd] at h
            simp only [cond_true, Dec.sem, Option.some.injEq] at h
            subst h
            exact hK ρ _ w (put_step (E := ⟨.tup [], []⟩) (by rw [← he.n]; exact hd) I rel_undef)
      · rename_i hb
        intro ρ a w I K Q hK
        have hy := guard_none I ht hb
        have : ¬ (Region.wanted o (yielded ops a.tmps) = true) := by unfold Region.wanted; rw [hg]; simp [hy]
        rw [if_neg this]
        cases hd : okDst e.n o.dst with
        | false => rw [hd] at h; simp [Dec.sem] at h
        | true =>
          rw [hd] at h
          simp only [cond_true, Dec.sem, Option.some.injEq] at h
          subst h
          exact hK ρ _ w (put_step (E := ⟨.tup [], []⟩) (by rw [← he.n]; exact hd) I rel_undef)
      · simp [Dec.sem] at h
theorem upd_eq {f : Nat → AV} {i : Nat} {v : AV} (h : f i = v) : upd f i v = f := funext fun j => by
  by_cases e : j = i
  · subst e; rw [upd_same, h]
  · exact upd_other _ _ e
theorem ev_tmp {s : St} {t : Nat} (h : s.ev (.tmp t) ≠ .u) : s.t t = s.ev (.tmp t) := by
  show s.t t = (bif Nat.blt t 5000000 then s.t t else .u)
  cases hb : Nat.blt t 5000000 with
  | true => rfl
  | false =>
    exfalso
    refine h ?_
    show (bif Nat.blt t 5000000 then s.t t else .u) = .u
    rw [hb]; rfl
theorem told_some {X : Type} {ops : Array Oper} {s : St} {o : Oper} {c : St → Option X} {r : X} (h : told ops s o c = some r) : c s = some r := by
  unfold told at h
  split at h
  · exact h
  · split at h
    · cases h
    · rename_i t ht
      split at h
      · rename_i b hb
        cases b with
        | true => simp only [if_true] at h; rw [upd_eq (by rw [ev_tmp (by rw [hb]; simp), hb])] at h; exact h
        | false => simp only [Bool.false_eq_true, if_false] at h; rw [upd_eq (by rw [ev_tmp (by rw [hb]; simp), hb])] at h; exact h
      · exact h
      · cases h
theorem run_some {α X : Type} {d : Dec α} {c : α → Option X} {r : X} (h : d.run c = some r) : ∃ E, d.sem = some E ∧ c E = some r := by
  rw [Dec.run_eq] at h
  split at h
  · rename_i E hE; exact ⟨E, hE, h⟩
  · cases h
/-- Operations in their order. -/
theorem opsE_ok (he : EnvOK P C e) {ops : Array Oper} {X : Type} {c : St → Option X} {r : X} : ∀ (l : List Oper) (is : List Nat) (s : St), is.map (ops[·]?) = l.map some → opsE e ops l s c = some r →
    ∃ s', c s' = some r ∧ ∀ ρ a w, Inv C ρ s a w → ∀ Q : Exit → Act → World → Prop, (∀ ρ' a' w', Inv C ρ' s' a' w' → Q .normal a' w') → wpOps P ops Q is a w
  | [], is, s, hl, h => by
    have : is = [] := by cases is <;> simp_all
    subst this
    exact ⟨s, h, fun ρ a w I Q hQ => hQ ρ a w I⟩
  | o :: l, is, s, hl, h => by
    cases is with
    | nil => simp at hl
    | cons i is =>
      simp only [List.map_cons, List.cons.injEq] at hl
      simp only [opsE] at h
      obtain ⟨E, hE, h2⟩ := run_some (told_some h)
      obtain ⟨s', h3, h4⟩ := opsE_ok he l is (s.app o.dst E) hl.2 h2
      refine ⟨s', h3, fun ρ a w I Q hQ => ?_⟩
      have := opG_step he hE ρ a w I (wpOps P ops Q is) Q (fun ρ' a' w' I' => h4 ρ' a' w' I' Q hQ)
      unfold wpOps
      rw [hl.1]
      simp only
      split
      · rename_i hw; rw [if_pos hw] at this; exact .inl this
      · rename_i hw; rw [if_neg hw] at this; exact this
theorem range_ops (ops : Array Oper) : (List.range ops.size).map (ops[·]?) = ops.toList.map some := by
  apply List.ext_getElem?
  intro i
  rw [List.getElem?_map, List.getElem?_map]
  rcases Nat.lt_or_ge i ops.size with h | h
  · simp [h]
  · simp [h]
end Go.Proofs.Ytkgjchmfiohciaa.Den
