/- Calls: what a call does. -/
import Derived.Test.YtiaafpihoikeeaaDenS15
namespace Go.Proofs.Ytiaafpihoikeeaa.Den
open Go.RowKit
set_option linter.unusedVariables false
set_option linter.unusedSimpArgs false
variable {P : Program} {C : Cx} {s : St} {o : Oper} {E : Eff} {h' : Nat → Option Row}
def DoesW (P : Program) (C : Cx) (s : St) (o : Oper) (E : Eff) : Prop :=
  ∀ ρ a w, Inv C ρ s a w → ∀ (next : Act → World → Prop) (Q : Exit → Act → World → Prop), (∀ v w' ρ', Inv C ρ' ⟨s.t, hupd s.h E.u⟩ a w' → rel (envOf C ρ' (hupd s.h E.u) w') E.v v → next (a.put o.dst v) w') → o.wp P a w next Q
theorem Does.w (h : Does P C s o E) : DoesW P C s o E := by
  intro ρ a w I next Q hn
  obtain ⟨n, v, w', ρ', hr, hnv, I', hrel⟩ := h ρ a w I
  unfold Oper.wp
  rw [hr]
  rcases hnv with rfl | ⟨rfl, rfl⟩
  · rw [Oper.upon_value]; exact hn v w' ρ' I' hrel
  · rw [Oper.upon_skip]; exact hn _ w' ρ' I' hrel
/-- No row is handed over. -/
theorem res_none {w : World} {n0 : Nat} {rd : Nat → Prop} {d : Nat} {h0 : Nat → Option Row} : ∀ {outs : List RM} {ps : List PV} {vs : List Value} {bs : List Nat} {i : Nat}, numO outs = 0 → ResRel w n0 rd outs ps vs bs →
    bs = [] ∧ (resV d h0 i outs ps).2 = [] ∧ ∀ R : RE, R.w = w → (∀ b, rd b → R.rd b) → rels R (resV d h0 i outs ps).1 vs
  | [], [], vs, bs, i, hn, h => by
    obtain ⟨rfl, rfl⟩ := h
    exact ⟨rfl, rfl, fun R _ _ => rfl⟩
  | .v k :: ms, p :: ps, vs, bs, i, hn, h => by
    obtain ⟨v, vs', rfl, hk, h1, h2⟩ := h
    obtain ⟨e1, e2, e3⟩ := res_none (d := d) (h0 := h0) (i := i + 1) (by simpa [numO] using hn) h2
    refine ⟨e1, by simp only [resV]; exact e2, fun R hw hrd => ?_⟩
    subst hw
    exact ⟨v, vs', rfl, VR_mono (fun b hb => ⟨hrd b hb, rfl⟩) h1, e3 R rfl hrd⟩
  | .c k :: ms, ⟨.slice k', xs⟩ :: ps, vs, bs, i, hn, h => by
    obtain ⟨v, vs', rfl, hk, hA, h1, h2⟩ := h
    obtain ⟨e1, e2, e3⟩ := res_none (d := d) (h0 := h0) (i := i + 1) (by simpa [numO] using hn) h2
    refine ⟨e1, by simp only [resV]; exact e2, fun R hw hrd => ?_⟩
    subst hw
    obtain ⟨A, rfl⟩ := hA
    exact ⟨_, vs', rfl, ⟨A, rfl, RC_mono (fun b hb => ⟨hrd b hb, rfl⟩) h1⟩, e3 R rfl hrd⟩
  | .o ty k fl :: ms, p :: ps, vs, bs, i, hn, h => by simp [numO] at hn
  | [], _ :: _, vs, bs, i, hn, h => by simp [ResRel] at h
  | .v k :: ms, [], vs, bs, i, hn, h => by simp [ResRel] at h
  | .c k :: ms, [], vs, bs, i, hn, h => by simp [ResRel] at h
  | .c k :: ms, ⟨.int _, _⟩ :: ps, vs, bs, i, hn, h => by simp [ResRel] at h
  | .c k :: ms, ⟨.bool, _⟩ :: ps, vs, bs, i, hn, h => by simp [ResRel] at h
  | .c k :: ms, ⟨.str, _⟩ :: ps, vs, bs, i, hn, h => by simp [ResRel] at h
  | .c k :: ms, ⟨.pair _ _, _⟩ :: ps, vs, bs, i, hn, h => by simp [ResRel] at h
  | .c k :: ms, ⟨.one _, _⟩ :: ps, vs, bs, i, hn, h => by simp [ResRel] at h
  | .c k :: ms, ⟨.unit, _⟩ :: ps, vs, bs, i, hn, h => by simp [ResRel] at h
  | .c k :: ms, ⟨.arr _ _, _⟩ :: ps, vs, bs, i, hn, h => by simp [ResRel] at h
/-- One row is handed over. -/
theorem res_one {w : World} {n0 : Nat} {rd : Nat → Prop} {d : Nat} {h0 : Nat → Option Row} : ∀ {outs : List RM} {ps : List PV} {vs : List Value} {bs : List Nat} {i : Nat}, numO outs = 1 → ResRel w n0 rd outs ps vs bs →
    ∃ id ty k xs vals v, (resV d h0 i outs ps).2 = [(id, ⟨nver h0 id, true, ty, .list k xs⟩)] ∧ bs = (blk v).toList ∧ w.ownsRow n0 ty k.cells v xs.length vals ∧ RL (RC w rd k) xs vals ∧ (∃ j, i ≤ j ∧ j < i + outs.length ∧ id = 1000000 + d * 16 + j) ∧
      ∀ R : RE, R.w = w → (∀ b, rd b → R.rd b) → R.h id = some ⟨nver h0 id, true, ty, .list k xs⟩ → R.ρ id = v → rels R (resV d h0 i outs ps).1 vs
  | [], ps, vs, bs, i, hn, h => by simp [numO] at hn
  | .v k :: ms, p :: ps, vs, bs, i, hn, h => by
    obtain ⟨v, vs', rfl, hk, h1, h2⟩ := h
    obtain ⟨id, ty, k2, xs, vals, v2, e1, e2, e3, e4, ⟨j, hj⟩, e5⟩ := res_one (d := d) (h0 := h0) (i := i + 1) (by simpa [numO] using hn) h2
    refine ⟨id, ty, k2, xs, vals, v2, by simp only [resV]; exact e1, e2, e3, e4, ⟨j, by omega, by simp only [List.length_cons]; omega, hj.2.2⟩, fun R hw hrd hR hρ => ?_⟩
    subst hw
    exact ⟨v, vs', rfl, VR_mono (fun b hb => ⟨hrd b hb, rfl⟩) h1, e5 R rfl hrd hR hρ⟩
  | .c k :: ms, ⟨.slice k', xs'⟩ :: ps, vs, bs, i, hn, h => by
    obtain ⟨v, vs', rfl, hk, hA, h1, h2⟩ := h
    obtain ⟨id, ty, k2, xs, vals, v2, e1, e2, e3, e4, ⟨j, hj⟩, e5⟩ := res_one (d := d) (h0 := h0) (i := i + 1) (by simpa [numO] using hn) h2
    refine ⟨id, ty, k2, xs, vals, v2, by simp only [resV]; exact e1, e2, e3, e4, ⟨j, by omega, by simp only [List.length_cons]; omega, hj.2.2⟩, fun R hw hrd hR hρ => ?_⟩
    subst hw
    obtain ⟨A, rfl⟩ := hA
    exact ⟨_, vs', rfl, ⟨A, rfl, RC_mono (fun b hb => ⟨hrd b hb, rfl⟩) h1⟩, e5 R rfl hrd hR hρ⟩
  | .o ty k fl :: ms, ⟨.slice k', xs⟩ :: ps, vs, bs, i, hn, h => by
    obtain ⟨v, vs', bs', vals, rfl, rfl, rfl, h1, h2, h3, h4⟩ := h
    obtain ⟨e1, e2, e3⟩ := res_none (d := d) (h0 := h0) (i := i + 1) (by simpa [numO] using hn) h4
    subst e1
    refine ⟨1000000 + d * 16 + i, ty, k', xs, vals, v, by simp only [resV]; rw [e2], by simp, h1, h2, ⟨i, Nat.le_refl _, by simp only [List.length_cons]; omega, rfl⟩, fun R hw hrd hR hρ => ?_⟩
    exact ⟨v, vs', rfl, ⟨h3, _, hR, Nat.le_refl _, fun _ => ⟨trivial, hρ.symm⟩⟩, e3 R hw hrd⟩
  | .v k :: ms, [], vs, bs, i, hn, h => by simp [ResRel] at h
  | .c k :: ms, [], vs, bs, i, hn, h => by simp [ResRel] at h
  | .o ty k fl :: ms, [], vs, bs, i, hn, h => by simp [ResRel] at h
  | .c k :: ms, ⟨.int _, _⟩ :: ps, vs, bs, i, hn, h => by simp [ResRel] at h
  | .c k :: ms, ⟨.bool, _⟩ :: ps, vs, bs, i, hn, h => by simp [ResRel] at h
  | .c k :: ms, ⟨.str, _⟩ :: ps, vs, bs, i, hn, h => by simp [ResRel] at h
  | .c k :: ms, ⟨.pair _ _, _⟩ :: ps, vs, bs, i, hn, h => by simp [ResRel] at h
  | .c k :: ms, ⟨.one _, _⟩ :: ps, vs, bs, i, hn, h => by simp [ResRel] at h
  | .c k :: ms, ⟨.unit, _⟩ :: ps, vs, bs, i, hn, h => by simp [ResRel] at h
  | .c k :: ms, ⟨.arr _ _, _⟩ :: ps, vs, bs, i, hn, h => by simp [ResRel] at h
  | .o ty k fl :: ms, ⟨.int _, _⟩ :: ps, vs, bs, i, hn, h => by simp [ResRel] at h
  | .o ty k fl :: ms, ⟨.bool, _⟩ :: ps, vs, bs, i, hn, h => by simp [ResRel] at h
  | .o ty k fl :: ms, ⟨.str, _⟩ :: ps, vs, bs, i, hn, h => by simp [ResRel] at h
  | .o ty k fl :: ms, ⟨.pair _ _, _⟩ :: ps, vs, bs, i, hn, h => by simp [ResRel] at h
  | .o ty k fl :: ms, ⟨.one _, _⟩ :: ps, vs, bs, i, hn, h => by simp [ResRel] at h
  | .o ty k fl :: ms, ⟨.unit, _⟩ :: ps, vs, bs, i, hn, h => by simp [ResRel] at h
  | .o ty k fl :: ms, ⟨.arr _ _, _⟩ :: ps, vs, bs, i, hn, h => by simp [ResRel] at h
theorem resOf_rel {R : RE} : ∀ {l : List AV} {vs : List Value}, rels R l vs → rel R (resOf l) (resVal vs)
  | [], vs, h => by simp only [rels] at h; subst h; exact ⟨#[], rfl, rfl⟩
  | [v], vs, h => by
    obtain ⟨u, r, rfl, h1, h2⟩ := h
    simp only [rels] at h2
    subst h2
    exact h1
  | v :: v' :: l, vs, h => by
    obtain ⟨u, r, rfl, h1, h2⟩ := h
    obtain ⟨u', r', rfl, h3, h4⟩ := h2
    exact ⟨_, rfl, ⟨u, _, rfl, h1, u', r', rfl, h3, h4⟩⟩
/-- Data that does not lead to memory. -/
theorem RC_near {w w' : World} {rd rd' : Nat → Prop} : ∀ {k : K} {x : T k} {cs : List Value}, k.far = false → RC w rd k x cs → RC w' rd' k x cs
  | .int k, x, cs, h, hr => hr
  | .bool, x, cs, h, hr => hr
  | .str, x, cs, h, hr => hr
  | .slice k, x, cs, h, hr => by simp [K.far] at h
  | .pair a b, x, cs, h, hr => by
    simp only [K.far, Bool.or_eq_false_iff] at h
    obtain ⟨c, d, rfl, h1, h2⟩ := hr
    exact ⟨c, d, rfl, RC_near h.1 h1, RC_near h.2 h2⟩
  | .one k, x, cs, h, hr => RC_near (k := k) h hr
  | .unit, x, cs, h, hr => hr
  | .arr n k, x, cs, h, hr => ⟨hr.1, RL_imp (fun x c hx => RC_near (by simpa [K.far] using h) hx) hr.2⟩
theorem VR_near {w w' : World} {rd rd' : Nat → Prop} {k : K} {x : T k} {v : Value} (h : k.far = false) (hr : VR w rd k x v) : VR w' rd' k x v := by
  unfold VR at *
  split at hr
  · rename_i hk
    obtain ⟨c, rfl, hr⟩ := hr
    rw [if_pos hk]
    exact ⟨c, rfl, RC_near h hr⟩
  · rename_i hk
    rw [if_neg hk]
    exact RC_near h hr
theorem res_near {w : World} {n0 : Nat} {rd rd' : Nat → Prop} : ∀ {outs : List RM} {ps : List PV} {vs : List Value} {bs : List Nat}, farRM outs = false → ResRel w n0 rd outs ps vs bs → ResRel w n0 rd' outs ps vs bs
  | [], [], vs, bs, hn, h => h
  | .v k :: ms, p :: ps, vs, bs, hn, h => by
    simp only [farRM, Bool.or_eq_false_iff] at hn
    obtain ⟨v, vs', rfl, hk, h1, h2⟩ := h
    exact ⟨v, vs', rfl, hk, VR_near (by rw [hk]; exact hn.1) h1, res_near hn.2 h2⟩
  | .c k :: ms, ps, vs, bs, hn, h => by simp [farRM] at hn
  | .o ty k fl :: ms, ps, vs, bs, hn, h => by simp [farRM] at hn
  | [], _ :: _, vs, bs, hn, h => by simp [ResRel] at h
  | .v k :: ms, [], vs, bs, hn, h => by simp [ResRel] at h
theorem hupd_app (h : Nat → Option Row) : ∀ (a b : List (Nat × Row)), hupd h (a ++ b) = hupd (hupd h a) b
  | [], b => rfl
  | p :: a, b => hupd_app (upd h p.1 (some p.2)) a b
theorem freeze_mem (hsub : ∀ id row, h' id = some row → s.h id = some row) : ∀ (l : List Nat), ∀ p ∈ freeze h' l, ∃ r, s.h p.1 = some r ∧ p.2 = { r with wr := false }
  | [], p, h => by simp [freeze] at h
  | i :: l, p, h => by
    simp only [freeze] at h
    split at h
    · rename_i r hr
      rcases List.mem_cons.1 h with rfl | h
      · exact ⟨r, hsub _ _ hr, rfl⟩
      · exact freeze_mem hsub l p h
    · exact freeze_mem hsub l p h
theorem freeze_has : ∀ (l : List Nat) (i : Nat), i ∈ l → (h' i).isSome = true → ∃ p ∈ freeze h' l, p.1 = i
  | [], i, h, hs => by simp at h
  | j :: l, i, h, hs => by
    simp only [freeze]
    rcases List.mem_cons.1 h with rfl | h
    · cases hr : h' i with
      | none => rw [hr] at hs; simp at hs
      | some r => exact ⟨(i, { r with wr := false }), by simp, rfl⟩
    · obtain ⟨p, hp, he⟩ := freeze_has l i h hs
      split
      · exact ⟨p, List.mem_cons_of_mem _ hp, he⟩
      · exact ⟨p, hp, he⟩
theorem rels_append' {R : RE} {a b : List AV} {l m : List Value} (h1 : rels R a l) (h2 : rels R b m) : rels R (a ++ b) (l ++ m) := rels_append h1 h2
theorem evs_rel {ρ : Nat → Value} {a : Act} {w : World} (I : Inv C ρ s a w) : ∀ (l : List Operand), rels (envOf C ρ s.h w) (l.map s.ev) (l.map a.eval)
  | [] => rfl
  | x :: l => ⟨_, _, rfl, I.ev x, evs_rel I l⟩
theorem idss_append : ∀ (a b : List AV), AV.idss (a ++ b) = AV.idss a ++ AV.idss b
  | [], b => rfl
  | v :: a, b => by simp [AV.idss, idss_append a b]
theorem does_call {outs : List RM} {e : Env outs} (hΓ : ∀ f sp, e.Γ f = some sp → SpecOK P f sp) (hsub : ∀ id row, h' id = some row → s.h id = some row) {fop : Operand} {qs : Array Operand} {ts : Array TypeId}
    (ho : o.op = .call { callee := .value fop, args := qs, argTypes := ts }) {d : Nat} (hdst : o.dst = some d)
    (hfoot : ∀ i, i ∈ (qs.toList.flatMap fun x => (s.ev x).ids) ++ (s.ev fop).ids → h' i = s.h i) (hres : ∀ j, j < 8 → h' (1000000 + d * 16 + j) = s.h (1000000 + d * 16 + j))
    (h : (effE e s.ev h' o).sem = some E) : DoesW P C s o E := by
  unfold effE at h
  rw [ho] at h
  simp only at h
  split at h
  rotate_left
  · simp [Dec.sem] at h
  rename_i f caps hf
  rw [hdst] at h
  unfold callE at h
  split at h
  rotate_left
  · simp [Dec.sem] at h
  rename_i sp d' hsp hd'
  injection hd' with hd'
  subst hd'
  split at h
  rotate_left
  · simp [Dec.sem] at h
  rename_i hlen
  obtain ⟨hlen, hnum⟩ := hlen
  split at h
  rotate_left
  · simp [Dec.sem] at h
  rename_i l hl
  split at h
  rotate_left
  · simp [Dec.sem] at h
  rename_i x hx
  cases hy : sp.f x with
  | none =>
    rw [hy] at h
    have h : (none : Option Eff) = some E := h
    cases h
  | some y =>
  rw [hy] at h
  have h := Option.some.inj h
  subst h
  have hspec := hΓ f sp hsp
  have hul := leafs_unL hx
  intro ρ a w I next Q hn
  have hfr : rel (envOf C ρ s.h w) (.fn f caps) (a.eval fop) := hf ▸ I.ev fop
  obtain ⟨c, hc, hcr⟩ := hfr
  -- the operation enters the callee
  have hrun : (execOp a.eval o).run P w = .ok (.enter f (qs.map a.eval ++ c)) w := by
    unfold execOp
    rw [ho]
    simp only [resolve, Sem.run_bind, hc, Deferred.ofValue, Sem.run_pure, Result.andThen_ok, invoke]
    have := run_enter (P := P) (f := f) (args := (#[] ++ qs.map a.eval) ++ c) (w := w) hspec.enters
    simpa using this
  unfold Oper.wp
  rw [hrun, Oper.upon_enter]
  have hargs : rels (envOf C ρ s.h w) (qs.toList.map s.ev ++ caps) ((qs.map a.eval ++ c).toList) := by
    have := rels_append (evs_rel I qs.toList) hcr
    simpa using this
  -- the rows that are frozen
  let ids := AV.idss (qs.toList.map s.ev ++ caps)
  have hids : ∀ i ∈ ids, h' i = s.h i := by
    intro i hi
    refine hfoot i ?_
    simp only [ids, idss_append, List.mem_append] at hi ⊢
    rcases hi with hi | hi
    · left
      have key : ∀ (l : List Operand), i ∈ AV.idss (l.map s.ev) → i ∈ l.flatMap fun x => (s.ev x).ids := by
        intro l
        induction l with
        | nil => intro h; simp [AV.idss] at h
        | cons q l ih =>
          intro h
          simp only [List.map_cons, AV.idss, List.mem_append, List.flatMap_cons] at h ⊢
          exact h.imp id ih
      exact key _ hi
    · right
      rw [hf]
      simpa [AV.ids] using hi
  let F := if farRM sp.outs = true then freeze h' ids else []
  have hF : ∀ p ∈ F, ∃ r, s.h p.1 = some r ∧ p.2 = { r with wr := false } := by
    intro p hp
    by_cases hfar : farRM sp.outs = true
    · simp only [F, if_pos hfar] at hp
      exact freeze_mem hsub ids p hp
    · simp only [F, if_neg hfar] at hp
      simp at hp
  obtain ⟨IF, mF, fF, vF, _⟩ := I.freezes F s hF
  -- what the callee may read
  let ok : Nat → Prop := if farRM sp.outs = true then Rd C (hupd s.h F) ρ w else fun b => b < w.heap.size
  have hok : ∀ b, ok b → b < w.heap.size := by
    intro b hb
    by_cases hfar : farRM sp.outs = true
    · simp only [ok, if_pos hfar] at hb; exact hb.1
    · simp only [ok, if_neg hfar] at hb; exact hb
  have hrd : ∀ b, Rd C s.h ρ w b → ok b := by
    intro b hb
    by_cases hfar : farRM sp.outs = true
    · simp only [ok, if_pos hfar]; exact (mF.rd b hb).1
    · simp only [ok, if_neg hfar]; exact hb.1
  have hown : ∀ i ∈ ids, ∀ r, s.h i = some r → ∀ b, blk (ρ i) = some b → ok b := by
    intro i hi r hr b hb
    have hlt := (I.rows i r hr).blk_lt hb
    by_cases hfar : farRM sp.outs = true
    · simp only [ok, if_pos hfar]
      refine ⟨hlt.2, .inr hlt.1, fun j r' hr' hw he => ?_⟩
      obtain ⟨rj, hrj⟩ : ∃ rj, s.h j = some rj := by
        have := vF j
        rw [hr'] at this
        cases h : s.h j with
        | none => rw [h] at this; simp at this
        | some rj => exact ⟨rj, rfl⟩
      have hij := I.inj i j r rj b hr hrj hb he
      subst hij
      obtain ⟨r2, h2, h3⟩ := fF i (by
        simp only [F, if_pos hfar]
        exact freeze_has ids i hi (by rw [hids i hi, hr]; rfl))
      rw [h2] at hr'
      injection hr' with hr'
      subst hr'
      rw [h3] at hw
      cases hw
    · simp only [ok, if_neg hfar]; exact hlt.2
  have hpv : PVs w ok sp.ins (unL (IM.ks sp.ins) x) (qs.map a.eval ++ c).toList := by
    rw [hul]
    exact argsOf_gen I hrd hsub hown hl hargs
  refine (hspec.calls x y hy w ok _ hok hpv).mono fun en w' hh => ?_
  obtain ⟨v, rfl, hbel, vs, bs, rfl, hnd, hrr⟩ := hh
  simp only
  have hg : w.grownBy w' none := ⟨hbel.os, hbel.tape, hbel.output, hbel.size, fun k hk _ => hbel.block k hk⟩
  have hver : ∀ j, nver h' (1000000 + d * 16 + j) = nver h' (1000000 + d * 16 + j) := fun _ => rfl
  have hlt0 := IF.fr.size
  obtain ⟨IG, mG⟩ := IF.grow hg
  -- what the caller may read behind the call
  have hrd2 : ∀ (h2 : Nat → Option Row) (ρ2 : Nat → Value), (∀ i r b, h2 i = some r → r.wr = true → blk (ρ2 i) = some b → (∃ r, hupd s.h F i = some r ∧ r.wr = true ∧ blk (ρ i) = some b) ∨ b ∈ bs) → farRM sp.outs = true →
      ∀ b, (b < w'.heap.size ∧ (ok b ∨ w.heap.size ≤ b) ∧ b ∉ bs) → Rd C h2 ρ2 w' b := by
    intro h2 ρ2 hcond hfar b ⟨h1, h3, h4⟩
    refine ⟨h1, ?_, fun i r hr hw he => ?_⟩
    · rcases h3 with h3 | h3
      · simp only [ok, if_pos hfar] at h3; exact h3.2.1
      · exact .inr (by have := IF.fr.size; omega)
    · rcases hcond i r b hr hw he with ⟨r', h5, h6, h7⟩ | h5
      · rcases h3 with h3 | h3
        · simp only [ok, if_pos hfar] at h3; exact h3.2.2 i r' h5 h6 h7
        · have := ((IF.rows i r' h5).blk_lt h7).2
          simp only at this
          omega
      · exact h4 h5
  rcases Nat.lt_or_ge 0 (numO sp.outs) with h1 | h0
  · -- one row is handed over
    have hone : numO sp.outs = 1 := by omega
    have hfar : farRM sp.outs = true := by
      have key : ∀ l : List RM, 0 < numO l → farRM l = true := by
        intro l
        induction l with
        | nil => intro h; simp [numO] at h
        | cons m l ih => cases m <;> simp_all [numO, farRM]
      exact key _ h1
    obtain ⟨id, ty, k, xs, vals, v2, e1, e2, e3, e4, ⟨j, _, hj, hjd⟩, e5⟩ := res_one (d := d) (h0 := h') (i := 0) hone hrr
    have hnv : nver h' id = nver (hupd s.h F) id := by
      have h3 : h' id = s.h id := by rw [hjd]; exact hres j (by omega)
      have h4 := vF id
      unfold nver
      rw [h3]
      cases hs : s.h id <;> cases hf : hupd s.h F id <;> rw [hs, hf] at h4 <;> simp_all
    have hblk2 : ∀ b, blk v2 = some b → w.heap.size ≤ b := by
      intro b hb
      rcases e3.2 with ⟨he, _⟩ | ⟨g, cap, cur, he, hb2, _⟩
      · rw [he] at hb; simp [blk] at hb
      · rw [he] at hb; simp only [blk, Option.some.injEq] at hb; omega
    obtain ⟨IH, mH⟩ := IF.make (d := id) (row' := ⟨nver h' id, true, ty, .list k xs⟩) (v' := v2) (w' := w') hg hnv hblk2
      (fun m => by
        refine ⟨vals, ⟨e3.1, ?_⟩, RL_imp (fun x c hx => RC_mono (fun b hb => ⟨hrd2 _ _ ?_ hfar b hb, rfl⟩) hx) e4, fun h => by cases h⟩
        · rcases e3.2 with he | ⟨g, cap, cur, he, hb2, rest⟩
          · exact .inl he
          · exact .inr ⟨g, cap, cur, he, by have := IF.fr.size; omega, rest⟩
        · intro i r b hr hw he
          by_cases e : i = id
          · subst e
            rw [upd_same] at he
            right
            rw [e2, he]; simp
          · rw [upd_other _ _ e] at hr he
            exact .inl ⟨r, hr, hw, he⟩)
    have hR : hupd s.h (F ++ (resV d h' 0 sp.outs (unL (RM.ks sp.outs) y)).2) = upd (hupd s.h F) id (some ⟨nver h' id, true, ty, .list k xs⟩) := by
      rw [hupd_app, e1]; rfl
    refine hn (resVal vs) w' (upd ρ id v2) ?_ ?_
    · show Inv C _ ⟨s.t, hupd s.h (F ++ _)⟩ a w'
      rw [hR]; exact IH
    · show rel (envOf C _ (hupd s.h (F ++ _)) w') _ _
      rw [hR]
      refine resOf_rel (e5 _ rfl (fun b hb => hrd2 _ _ ?_ hfar b hb) (upd_same _ _ _) (upd_same _ _ _))
      intro i r b hr hw he
      by_cases e : i = id
      · subst e
        rw [upd_same] at he
        right
        rw [e2, he]; simp
      · rw [upd_other _ _ e] at hr he
        exact .inl ⟨r, hr, hw, he⟩
  · have hzero : numO sp.outs = 0 := by omega
    have hR : hupd s.h (F ++ (resV d h' 0 sp.outs (unL (RM.ks sp.outs) y)).2) = hupd s.h F := by
      rw [hupd_app, (res_none (d := d) (h0 := h') (i := 0) hzero hrr).2.1]; rfl
    refine hn (resVal vs) w' ρ ?_ ?_
    · show Inv C _ ⟨s.t, hupd s.h (F ++ _)⟩ a w'
      rw [hR]; exact IG
    · show rel (envOf C _ (hupd s.h (F ++ _)) w') _ _
      rw [hR]
      by_cases hfar : farRM sp.outs = true
      · exact resOf_rel ((res_none (d := d) (h0 := h') (i := 0) hzero hrr).2.2 _ rfl (fun b hb => hrd2 _ _ (fun i r b hr hw he => .inl ⟨r, hr, hw, he⟩) hfar b hb))
      · have hrr' := res_near (rd' := Rd C (hupd s.h F) ρ w') (by simpa using hfar) hrr
        exact resOf_rel ((res_none (d := d) (h0 := h') (i := 0) hzero hrr').2.2 _ rfl (fun b hb => hb))
end Go.Proofs.Ytiaafpihoikeeaa.Den
