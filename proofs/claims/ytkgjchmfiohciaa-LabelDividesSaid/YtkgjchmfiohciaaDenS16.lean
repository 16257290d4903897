/- Calls: what a call does. -/
import Derived.Test.YtkgjchmfiohciaaDenS15
namespace Go.Proofs.Ytkgjchmfiohciaa.Den
open Go.RowKit
set_option linter.unusedVariables false
set_option linter.unusedSimpArgs false
variable {P : Program} {C : Cx} {s : St} {o : Oper} {E : Eff} {h' : Nat → Option Row}
def DoesW (P : Program) (C : Cx) (s : St) (o : Oper) (E : Eff) : Prop :=
  ∀ ρ a w, Inv C ρ s a w → ∀ (next : Act → World → Prop) (Q : Exit → Act → World → Prop), (∀ v w' ρ', Inv C ρ' ⟨s.t, hupd s.h E.u⟩ a w' → rel (envOf C ρ' (hupd s.h E.u) w') E.v v → next (a.put o.dst v) w') → o.wp P a w next Q
theorem Does.w (h : Does P C s o E) : DoesW P C s o E := by
  intro ρ a w I next Q hn
  obtain ⟨n, v, w', ρ', hr, hnv, I', hrel⟩ := h ρ a w I
  unfold Oper.wp
  rw [hr]
  rcases hnv with rfl | ⟨rfl, rfl⟩
  · rw [Oper.upon_value]; exact hn v w' ρ' I' hrel
  · rw [Oper.upon_skip]; exact hn _ w' ρ' I' hrel
/-- No row is handed over. -/
theorem res_none {w : World} {n0 : Nat} {rd : Nat → Prop} {d : Nat} {h0 : Nat → Option Row} {ios : Nat → Option Value} : ∀ {outs : List RM} {ps : List PV} {vs : List Value} {bs : List Nat} {i : Nat}, numO outs = 0 → ResRel w n0 rd ios outs ps vs bs →
    bs = [] ∧ (resV d h0 i outs ps).2 = [] ∧ ∀ R : RE, R.w = w → (∀ b, rd b → R.rd b) → rels R (resV d h0 i outs ps).1 vs
  | [], [], vs, bs, i, hn, h => by
    obtain ⟨rfl, rfl⟩ := h
    exact ⟨rfl, rfl, fun R _ _ => rfl⟩
  | .v k :: ms, p :: ps, vs, bs, i, hn, h => by
    obtain ⟨v, vs', rfl, hk, h1, h2⟩ := h
    obtain ⟨e1, e2, e3⟩ := res_none (d := d) (h0 := h0) (i := i + 1) (by simpa [numO] using hn) h2
    refine ⟨e1, by simp only [resV]; exact e2, fun R hw hrd => ?_⟩
    subst hw
    exact ⟨v, vs', rfl, VR_mono (fun b hb => ⟨hrd b hb, rfl⟩) h1, e3 R rfl hrd⟩
  | .c k :: ms, ⟨.slice k', xs⟩ :: ps, vs, bs, i, hn, h => by
    obtain ⟨v, vs', rfl, hk, hA, h1, h2⟩ := h
    obtain ⟨e1, e2, e3⟩ := res_none (d := d) (h0 := h0) (i := i + 1) (by simpa [numO] using hn) h2
    refine ⟨e1, by simp only [resV]; exact e2, fun R hw hrd => ?_⟩
    subst hw
    obtain ⟨A, rfl⟩ := hA
    exact ⟨_, vs', rfl, ⟨A, rfl, RC_mono (fun b hb => ⟨hrd b hb, rfl⟩) h1⟩, e3 R rfl hrd⟩
  | .o ty k fl :: ms, p :: ps, vs, bs, i, hn, h => by simp [numO] at hn
  | .b j ty k :: ms, p :: ps, vs, bs, i, hn, h => by
    obtain ⟨_, h2⟩ := h
    have := res_none (d := d) (h0 := h0) (i := i + 1) (by simpa [numO] using hn) h2
    simpa only [resV] using this
  | .r j ty k :: ms, ⟨.slice k', xs⟩ :: ps, vs, bs, i, hn, h => by
    obtain ⟨_, h2⟩ := h
    have := res_none (d := d) (h0 := h0) (i := i + 1) (by simpa [numO] using hn) h2
    simpa only [resV] using this
  | .b j ty k :: ms, [], vs, bs, i, hn, h => by simp [ResRel] at h
  | .r j ty k :: ms, [], vs, bs, i, hn, h => by simp [ResRel] at h
  | .r j ty k :: ms, ⟨.int _, _⟩ :: ps, vs, bs, i, hn, h => by simp [ResRel] at h
  | .r j ty k :: ms, ⟨.bool, _⟩ :: ps, vs, bs, i, hn, h => by simp [ResRel] at h
  | .r j ty k :: ms, ⟨.str, _⟩ :: ps, vs, bs, i, hn, h => by simp [ResRel] at h
  | .r j ty k :: ms, ⟨.pair _ _, _⟩ :: ps, vs, bs, i, hn, h => by simp [ResRel] at h
  | .r j ty k :: ms, ⟨.one _, _⟩ :: ps, vs, bs, i, hn, h => by simp [ResRel] at h
  | .r j ty k :: ms, ⟨.unit, _⟩ :: ps, vs, bs, i, hn, h => by simp [ResRel] at h
  | .r j ty k :: ms, ⟨.arr _ _, _⟩ :: ps, vs, bs, i, hn, h => by simp [ResRel] at h
  | [], _ :: _, vs, bs, i, hn, h => by simp [ResRel] at h
  | .v k :: ms, [], vs, bs, i, hn, h => by simp [ResRel] at h
  | .c k :: ms, [], vs, bs, i, hn, h => by simp [ResRel] at h
  | .c k :: ms, ⟨.int _, _⟩ :: ps, vs, bs, i, hn, h => by simp [ResRel] at h
  | .c k :: ms, ⟨.bool, _⟩ :: ps, vs, bs, i, hn, h => by simp [ResRel] at h
  | .c k :: ms, ⟨.str, _⟩ :: ps, vs, bs, i, hn, h => by simp [ResRel] at h
  | .c k :: ms, ⟨.pair _ _, _⟩ :: ps, vs, bs, i, hn, h => by simp [ResRel] at h
  | .c k :: ms, ⟨.one _, _⟩ :: ps, vs, bs, i, hn, h => by simp [ResRel] at h
  | .c k :: ms, ⟨.unit, _⟩ :: ps, vs, bs, i, hn, h => by simp [ResRel] at h
  | .c k :: ms, ⟨.arr _ _, _⟩ :: ps, vs, bs, i, hn, h => by simp [ResRel] at h
/-- One row is handed over. -/
theorem res_one {w : World} {n0 : Nat} {rd : Nat → Prop} {d : Nat} {h0 : Nat → Option Row} {ios : Nat → Option Value} : ∀ {outs : List RM} {ps : List PV} {vs : List Value} {bs : List Nat} {i : Nat}, numO outs = 1 → ResRel w n0 rd ios outs ps vs bs →
    ∃ id ty k xs vals v, (resV d h0 i outs ps).2 = [(id, ⟨nver h0 id, true, ty, .list k xs⟩)] ∧ bs = (blk v).toList ∧ w.ownsRow n0 ty k.cells v xs.length vals ∧ RL (RC w rd k) xs vals ∧ (∃ j, i ≤ j ∧ j < i + outs.length ∧ id = 1000000 + d * 16 + j) ∧
      ∀ R : RE, R.w = w → (∀ b, rd b → R.rd b) → R.h id = some ⟨nver h0 id, true, ty, .list k xs⟩ → R.ρ id = v → rels R (resV d h0 i outs ps).1 vs
  | [], ps, vs, bs, i, hn, h => by simp [numO] at hn
  | .v k :: ms, p :: ps, vs, bs, i, hn, h => by
    obtain ⟨v, vs', rfl, hk, h1, h2⟩ := h
    obtain ⟨id, ty, k2, xs, vals, v2, e1, e2, e3, e4, ⟨j, hj⟩, e5⟩ := res_one (d := d) (h0 := h0) (i := i + 1) (by simpa [numO] using hn) h2
    refine ⟨id, ty, k2, xs, vals, v2, by simp only [resV]; exact e1, e2, e3, e4, ⟨j, by omega, by simp only [List.length_cons]; omega, hj.2.2⟩, fun R hw hrd hR hρ => ?_⟩
    subst hw
    exact ⟨v, vs', rfl, VR_mono (fun b hb => ⟨hrd b hb, rfl⟩) h1, e5 R rfl hrd hR hρ⟩
  | .c k :: ms, ⟨.slice k', xs'⟩ :: ps, vs, bs, i, hn, h => by
    obtain ⟨v, vs', rfl, hk, hA, h1, h2⟩ := h
    obtain ⟨id, ty, k2, xs, vals, v2, e1, e2, e3, e4, ⟨j, hj⟩, e5⟩ := res_one (d := d) (h0 := h0) (i := i + 1) (by simpa [numO] using hn) h2
    refine ⟨id, ty, k2, xs, vals, v2, by simp only [resV]; exact e1, e2, e3, e4, ⟨j, by omega, by simp only [List.length_cons]; omega, hj.2.2⟩, fun R hw hrd hR hρ => ?_⟩
    subst hw
    obtain ⟨A, rfl⟩ := hA
    exact ⟨_, vs', rfl, ⟨A, rfl, RC_mono (fun b hb => ⟨hrd b hb, rfl⟩) h1⟩, e5 R rfl hrd hR hρ⟩
  | .o ty k fl :: ms, ⟨.slice k', xs⟩ :: ps, vs, bs, i, hn, h => by
    obtain ⟨v, vs', bs', vals, rfl, rfl, rfl, h1, h2, h3, h4⟩ := h
    obtain ⟨e1, e2, e3⟩ := res_none (d := d) (h0 := h0) (i := i + 1) (by simpa [numO] using hn) h4
    subst e1
    refine ⟨1000000 + d * 16 + i, ty, k', xs, vals, v, by simp only [resV]; rw [e2], by simp, h1, h2, ⟨i, Nat.le_refl _, by simp only [List.length_cons]; omega, rfl⟩, fun R hw hrd hR hρ => ?_⟩
    exact ⟨v, vs', rfl, ⟨h3, _, hR, Nat.le_refl _, fun _ => ⟨trivial, hρ.symm⟩⟩, e3 R hw hrd⟩
  | .b j ty k :: ms, p :: ps, vs, bs, i, hn, h => by
    obtain ⟨_, h2⟩ := h
    obtain ⟨id, ty2, k2, xs, vals, v2, e1, e2, e3, e4, hj, e5⟩ := res_one (d := d) (h0 := h0) (i := i + 1) (by simpa [numO] using hn) h2
    obtain ⟨j, hj⟩ := hj
    exact ⟨id, ty2, k2, xs, vals, v2, by simp only [resV]; exact e1, e2, e3, e4, ⟨j, by omega, by simp only [List.length_cons]; omega, hj.2.2⟩, fun R hw hrd hR hρ => by simp only [resV]; exact e5 R hw hrd hR hρ⟩
  | .r j ty k :: ms, ⟨.slice k', xs⟩ :: ps, vs, bs, i, hn, h => by
    obtain ⟨_, h2⟩ := h
    obtain ⟨id, ty2, k2, xs2, vals, v2, e1, e2, e3, e4, hj, e5⟩ := res_one (d := d) (h0 := h0) (i := i + 1) (by simpa [numO] using hn) h2
    obtain ⟨j, hj⟩ := hj
    exact ⟨id, ty2, k2, xs2, vals, v2, by simp only [resV]; exact e1, e2, e3, e4, ⟨j, by omega, by simp only [List.length_cons]; omega, hj.2.2⟩, fun R hw hrd hR hρ => by simp only [resV]; exact e5 R hw hrd hR hρ⟩
  | .b j ty k :: ms, [], vs, bs, i, hn, h => by simp [ResRel] at h
  | .r j ty k :: ms, [], vs, bs, i, hn, h => by simp [ResRel] at h
  | .r j ty k :: ms, ⟨.int _, _⟩ :: ps, vs, bs, i, hn, h => by simp [ResRel] at h
  | .r j ty k :: ms, ⟨.bool, _⟩ :: ps, vs, bs, i, hn, h => by simp [ResRel] at h
  | .r j ty k :: ms, ⟨.str, _⟩ :: ps, vs, bs, i, hn, h => by simp [ResRel] at h
  | .r j ty k :: ms, ⟨.pair _ _, _⟩ :: ps, vs, bs, i, hn, h => by simp [ResRel] at h
  | .r j ty k :: ms, ⟨.one _, _⟩ :: ps, vs, bs, i, hn, h => by simp [ResRel] at h
  | .r j ty k :: ms, ⟨.unit, _⟩ :: ps, vs, bs, i, hn, h => by simp [ResRel] at h
  | .r j ty k :: ms, ⟨.arr _ _, _⟩ :: ps, vs, bs, i, hn, h => by simp [ResRel] at h
  | .v k :: ms, [], vs, bs, i, hn, h => by simp [ResRel] at h
  | .c k :: ms, [], vs, bs, i, hn, h => by simp [ResRel] at h
  | .o ty k fl :: ms, [], vs, bs, i, hn, h => by simp [ResRel] at h
  | .c k :: ms, ⟨.int _, _⟩ :: ps, vs, bs, i, hn, h => by simp [ResRel] at h
  | .c k :: ms, ⟨.bool, _⟩ :: ps, vs, bs, i, hn, h => by simp [ResRel] at h
  | .c k :: ms, ⟨.str, _⟩ :: ps, vs, bs, i, hn, h => by simp [ResRel] at h
  | .c k :: ms, ⟨.pair _ _, _⟩ :: ps, vs, bs, i, hn, h => by simp [ResRel] at h
  | .c k :: ms, ⟨.one _, _⟩ :: ps, vs, bs, i, hn, h => by simp [ResRel] at h
  | .c k :: ms, ⟨.unit, _⟩ :: ps, vs, bs, i, hn, h => by simp [ResRel] at h
  | .c k :: ms, ⟨.arr _ _, _⟩ :: ps, vs, bs, i, hn, h => by simp [ResRel] at h
  | .o ty k fl :: ms, ⟨.int _, _⟩ :: ps, vs, bs, i, hn, h => by simp [ResRel] at h
  | .o ty k fl :: ms, ⟨.bool, _⟩ :: ps, vs, bs, i, hn, h => by simp [ResRel] at h
  | .o ty k fl :: ms, ⟨.str, _⟩ :: ps, vs, bs, i, hn, h => by simp [ResRel] at h
  | .o ty k fl :: ms, ⟨.pair _ _, _⟩ :: ps, vs, bs, i, hn, h => by simp [ResRel] at h
  | .o ty k fl :: ms, ⟨.one _, _⟩ :: ps, vs, bs, i, hn, h => by simp [ResRel] at h
  | .o ty k fl :: ms, ⟨.unit, _⟩ :: ps, vs, bs, i, hn, h => by simp [ResRel] at h
  | .o ty k fl :: ms, ⟨.arr _ _, _⟩ :: ps, vs, bs, i, hn, h => by simp [ResRel] at h
theorem resOf_rel {R : RE} : ∀ {l : List AV} {vs : List Value}, rels R l vs → rel R (resOf l) (resVal vs)
  | [], vs, h => by simp only [rels] at h; subst h; exact ⟨#[], rfl, rfl⟩
  | [v], vs, h => by
    obtain ⟨u, r, rfl, h1, h2⟩ := h
    simp only [rels] at h2
    subst h2
    exact h1
  | v :: v' :: l, vs, h => by
    obtain ⟨u, r, rfl, h1, h2⟩ := h
    obtain ⟨u', r', rfl, h3, h4⟩ := h2
    exact ⟨_, rfl, ⟨u, _, rfl, h1, u', r', rfl, h3, h4⟩⟩
/-- Data that does not lead to memory. -/
theorem RC_near {w w' : World} {rd rd' : Nat → Prop} : ∀ {k : K} {x : T k} {cs : List Value}, k.far = false → RC w rd k x cs → RC w' rd' k x cs
  | .int k, x, cs, h, hr => hr
  | .bool, x, cs, h, hr => hr
  | .str, x, cs, h, hr => hr
  | .slice k, x, cs, h, hr => by simp [K.far] at h
  | .pair a b, x, cs, h, hr => by
    simp only [K.far, Bool.or_eq_false_iff] at h
    obtain ⟨c, d, rfl, h1, h2⟩ := hr
    exact ⟨c, d, rfl, RC_near h.1 h1, RC_near h.2 h2⟩
  | .one k, x, cs, h, hr => RC_near (k := k) h hr
  | .unit, x, cs, h, hr => hr
  | .arr n k, x, cs, h, hr => ⟨hr.1, RL_imp (fun x c hx => RC_near (by simpa [K.far] using h) hx) hr.2⟩
theorem VR_near {w w' : World} {rd rd' : Nat → Prop} {k : K} {x : T k} {v : Value} (h : k.far = false) (hr : VR w rd k x v) : VR w' rd' k x v := by
  unfold VR at *
  split at hr
  · rename_i hk
    obtain ⟨c, rfl, hr⟩ := hr
    rw [if_pos hk]
    exact ⟨c, rfl, RC_near h hr⟩
  · rename_i hk
    rw [if_neg hk]
    exact RC_near h hr
theorem BoxR_near {w : World} {rd rd' : Nat → Prop} {ty : Nat} {k : K} {x : T k} {v : Value} (h : k.far = false) (hr : BoxR w rd ty k x v) : BoxR w rd' ty k x v := by
  obtain ⟨g, cur, h1, h2, h3⟩ := hr
  exact ⟨g, cur, h1, h2, RC_near h h3⟩
theorem res_near {w : World} {n0 : Nat} {rd rd' : Nat → Prop} {ios : Nat → Option Value} : ∀ {outs : List RM} {ps : List PV} {vs : List Value} {bs : List Nat}, farRM outs = false → ResRel w n0 rd ios outs ps vs bs → ResRel w n0 rd' ios outs ps vs bs
  | [], [], vs, bs, hn, h => h
  | .v k :: ms, p :: ps, vs, bs, hn, h => by
    simp only [farRM, Bool.or_eq_false_iff] at hn
    obtain ⟨v, vs', rfl, hk, h1, h2⟩ := h
    exact ⟨v, vs', rfl, hk, VR_near (by rw [hk]; exact hn.1) h1, res_near hn.2 h2⟩
  | .c k :: ms, ps, vs, bs, hn, h => by simp [farRM] at hn
  | .o ty k fl :: ms, ps, vs, bs, hn, h => by simp [farRM] at hn
  | .b j ty k :: ms, p :: ps, vs, bs, hn, h => by
    simp only [farRM, Bool.or_eq_false_iff] at hn
    obtain ⟨⟨v, h1, h2, h3⟩, h4⟩ := h
    exact ⟨⟨v, h1, h2, BoxR_near (by rw [h2]; exact hn.1) h3⟩, res_near hn.2 h4⟩
  | .r j ty k :: ms, ⟨.slice k', xs⟩ :: ps, vs, bs, hn, h => by
    simp only [farRM, Bool.or_eq_false_iff] at hn
    obtain ⟨⟨v, h1, h2, vals, h3, h5⟩, h4⟩ := h
    exact ⟨⟨v, h1, h2, vals, h3, RL_imp (fun x c hx => RC_near (by rw [h2]; exact hn.1) hx) h5⟩, res_near hn.2 h4⟩
  | .b j ty k :: ms, [], vs, bs, hn, h => by simp [ResRel] at h
  | .r j ty k :: ms, [], vs, bs, hn, h => by simp [ResRel] at h
  | .r j ty k :: ms, ⟨.int _, _⟩ :: ps, vs, bs, hn, h => by simp [ResRel] at h
  | .r j ty k :: ms, ⟨.bool, _⟩ :: ps, vs, bs, hn, h => by simp [ResRel] at h
  | .r j ty k :: ms, ⟨.str, _⟩ :: ps, vs, bs, hn, h => by simp [ResRel] at h
  | .r j ty k :: ms, ⟨.pair _ _, _⟩ :: ps, vs, bs, hn, h => by simp [ResRel] at h
  | .r j ty k :: ms, ⟨.one _, _⟩ :: ps, vs, bs, hn, h => by simp [ResRel] at h
  | .r j ty k :: ms, ⟨.unit, _⟩ :: ps, vs, bs, hn, h => by simp [ResRel] at h
  | .r j ty k :: ms, ⟨.arr _ _, _⟩ :: ps, vs, bs, hn, h => by simp [ResRel] at h
  | [], _ :: _, vs, bs, hn, h => by simp [ResRel] at h
  | .v k :: ms, [], vs, bs, hn, h => by simp [ResRel] at h
theorem hupd_app (h : Nat → Option Row) : ∀ (a b : List (Nat × Row)), hupd h (a ++ b) = hupd (hupd h a) b
  | [], b => rfl
  | p :: a, b => hupd_app (upd h p.1 (some p.2)) a b
theorem freeze_mem (hsub : ∀ id row, h' id = some row → s.h id = some row) : ∀ (l : List Nat), ∀ p ∈ freeze h' l, ∃ r, s.h p.1 = some r ∧ p.2 = { r with wr := false }
  | [], p, h => by simp [freeze] at h
  | i :: l, p, h => by
    simp only [freeze] at h
    split at h
    · rename_i r hr
      rcases List.mem_cons.1 h with rfl | h
      · exact ⟨r, hsub _ _ hr, rfl⟩
      · exact freeze_mem hsub l p h
    · exact freeze_mem hsub l p h
theorem freeze_fst : ∀ (l : List Nat), ∀ p ∈ freeze h' l, p.1 ∈ l
  | [], p, h => by simp [freeze] at h
  | i :: l, p, h => by
    simp only [freeze] at h
    split at h
    · rcases List.mem_cons.1 h with rfl | h
      · simp
      · exact List.mem_cons_of_mem _ (freeze_fst l p h)
    · exact List.mem_cons_of_mem _ (freeze_fst l p h)
theorem freeze_has : ∀ (l : List Nat) (i : Nat), i ∈ l → (h' i).isSome = true → ∃ p ∈ freeze h' l, p.1 = i
  | [], i, h, hs => by simp at h
  | j :: l, i, h, hs => by
    simp only [freeze]
    rcases List.mem_cons.1 h with rfl | h
    · cases hr : h' i with
      | none => rw [hr] at hs; simp at hs
      | some r => exact ⟨(i, { r with wr := false }), by simp, rfl⟩
    · obtain ⟨p, hp, he⟩ := freeze_has l i h hs
      split
      · exact ⟨p, List.mem_cons_of_mem _ hp, he⟩
      · exact ⟨p, hp, he⟩
theorem rels_append' {R : RE} {a b : List AV} {l m : List Value} (h1 : rels R a l) (h2 : rels R b m) : rels R (a ++ b) (l ++ m) := rels_append h1 h2
theorem evs_rel {ρ : Nat → Value} {a : Act} {w : World} (I : Inv C ρ s a w) : ∀ (l : List Operand), rels (envOf C ρ s.h w) (l.map s.ev) (l.map a.eval)
  | [] => rfl
  | x :: l => ⟨_, _, rfl, I.ev x, evs_rel I l⟩
theorem idss_append : ∀ (a b : List AV), AV.idss (a ++ b) = AV.idss a ++ AV.idss b
  | [], b => rfl
  | v :: a, b => by simp [AV.idss, idss_append a b]
theorem ResRel_mono {w : World} {n0 : Nat} {rd rd' : Nat → Prop} {ios : Nat → Option Value} (hm : ∀ b, rd b → rd' b) : ∀ {outs : List RM} {ps : List PV} {vs : List Value} {bs : List Nat}, ResRel w n0 rd ios outs ps vs bs → ResRel w n0 rd' ios outs ps vs bs := by
  intro outs
  induction outs with
  | nil => intro ps vs bs h; cases ps <;> exact h
  | cons m ms ih =>
    intro ps vs bs h
    cases ps with
    | nil => cases m <;> exact h
    | cons p ps =>
      have hm' : ∀ b, rd b → rd' b ∧ w.heap[b]? = w.heap[b]? := fun b hb => ⟨hm b hb, rfl⟩
      cases m with
      | v k =>
        obtain ⟨v, vs', rfl, hk, h1, h2⟩ := h
        exact ⟨v, vs', rfl, hk, VR_mono hm' h1, ih h2⟩
      | c k =>
        obtain ⟨pk, pv⟩ := p
        cases pk with
        | slice k' =>
          obtain ⟨v, vs', rfl, hk, hA, h1, h2⟩ := h
          exact ⟨v, vs', rfl, hk, hA, RC_mono hm' h1, ih h2⟩
        | _ => exact h
      | o ty k fl =>
        obtain ⟨pk, pv⟩ := p
        cases pk with
        | slice k' =>
          obtain ⟨v, vs', bs', vals, rfl, hk, hb, h1, h2, h3, h4⟩ := h
          exact ⟨v, vs', bs', vals, rfl, hk, hb, h1, RL_imp (fun x c hx => RC_mono hm' hx) h2, h3, ih h4⟩
        | _ => exact h
      | b j ty k =>
        obtain ⟨⟨v, h1, h2, g, cur, h3, h4, h5⟩, h6⟩ := h
        exact ⟨⟨v, h1, h2, g, cur, h3, h4, RC_mono hm' h5⟩, ih h6⟩
      | r j ty k =>
        obtain ⟨pk, pv⟩ := p
        cases pk with
        | slice k' =>
          obtain ⟨⟨v, h1, h2, vals, h3, h5⟩, h6⟩ := h
          exact ⟨⟨v, h1, h2, vals, h3, RL_imp (fun x c hx => RC_mono hm' hx) h5⟩, ih h6⟩
        | _ => exact h
theorem hupd_eqAt : ∀ (L : List (Nat × Row)) {h h' : Nat → Option Row} {i : Nat}, h' i = h i → hupd h' L i = hupd h L i
  | [], h, h', i, e => e
  | p :: L, h, h', i, e => by
    refine hupd_eqAt L ?_
    by_cases hp : i = p.1
    · subst hp; rw [upd_same, upd_same]
    · rw [upd_other _ _ hp, upd_other _ _ hp]; exact e
theorem hupd_sub : ∀ (L : List (Nat × Row)) {h h' : Nat → Option Row}, (∀ id row, h' id = some row → h id = some row) → ∀ id row, hupd h' L id = some row → hupd h L id = some row
  | [], h, h', e => e
  | p :: L, h, h', e => hupd_sub L (fun id row hr => by
    by_cases hp : id = p.1
    · subst hp; rw [upd_same] at hr ⊢; exact hr
    · rw [upd_other _ _ hp] at hr ⊢; exact e _ _ hr)
/-- What is handed in, and the rows of the caller that hold it. -/
def IoR (h : Nat → Option Row) : List (Nat × Bool × Nat × K) → List (Nat × Nat) → Prop
  | [], [] => True
  | p :: l, q :: m => q.1 = p.1 ∧ (∃ r, h q.2 = some r ∧ r.wr = true ∧ (p.2.1 = true → ∃ cs, r.b = .cells cs ∧ cs.length = p.2.2.2.cells) ∧ (p.2.1 = false → ∃ xs, r.b = .list p.2.2.2 xs)) ∧ IoR h l m
  | _, _ => False
theorem IoR.app {h : Nat → Option Row} : ∀ {a : List (Nat × Bool × Nat × K)} {b : List (Nat × Nat)} {c : List (Nat × Bool × Nat × K)} {d : List (Nat × Nat)}, IoR h a b → IoR h c d → IoR h (a ++ c) (b ++ d)
  | [], [], c, d, _, h2 => h2
  | p :: a, q :: b, c, d, h1, h2 => ⟨h1.1, h1.2.1, IoR.app h1.2.2 h2⟩
  | [], _ :: _, c, d, h1, h2 => h1.elim
  | _ :: _, [], c, d, h1, h2 => h1.elim
theorem IoR.mem {h : Nat → Option Row} : ∀ {a : List (Nat × Bool × Nat × K)} {b : List (Nat × Nat)}, IoR h a b → ∀ q ∈ b, ∃ r, h q.2 = some r ∧ r.wr = true
  | [], [], _, q, hq => by simp at hq
  | p :: a, q' :: b, hr, q, hq => by
    obtain ⟨_, ⟨r, h1, h2, _⟩, h3⟩ := hr
    rcases List.mem_cons.1 hq with rfl | hq
    · exact ⟨r, h1, h2⟩
    · exact h3.mem q hq
  | [], _ :: _, h1, _, _ => h1.elim
  | _ :: _, [], h1, _, _ => h1.elim
theorem IoR.keys {h : Nat → Option Row} : ∀ {a : List (Nat × Bool × Nat × K)} {b : List (Nat × Nat)}, IoR h a b → a.map (·.1) = b.map (·.1)
  | [], [], _ => rfl
  | p :: a, q :: b, hr => by simp only [List.map_cons, hr.1, hr.2.2.keys]
  | [], _ :: _, h1 => h1.elim
  | _ :: _, [], h1 => h1.elim
theorem unflatN_len {α : Type} {f : List AV → Option (α × List AV)} {m : Nat} (hf : ∀ l x l', f l = some (x, l') → l.length = m + l'.length) : ∀ (n : Nat) (l : List AV) (x : List α) (l' : List AV), unflatN f n l = some (x, l') → l.length = n * m + l'.length
  | 0, l, x, l', h => by
    simp only [unflatN, Option.some.injEq, Prod.mk.injEq] at h
    rw [h.2]; omega
  | n + 1, l, x, l', h => by
    simp only [unflatN] at h
    split at h
    · rename_i y l2 hy
      split at h
      · rename_i ys l3 hys
        simp only [Option.some.injEq, Prod.mk.injEq] at h
        rw [hf _ _ _ hy, unflatN_len hf n _ _ _ hys, ← h.2, Nat.add_mul]; omega
      · cases h
    · cases h
theorem unflat_len {h0 : Nat → Option Row} : ∀ (k : K) (l : List AV) (x : T k) (l' : List AV), unflat h0 k l = some (x, l') → l.length = k.cells + l'.length := by
  intro k
  induction k with
  | int i =>
    intro l x l' h
    cases l with
    | nil => simp [unflat] at h
    | cons v l =>
      simp only [unflat] at h
      split at h
      · simp only [Option.some.injEq, Prod.mk.injEq] at h
        rw [← h.2]
        simp [K.cells, Nat.add_comm]
      · cases h
  | bool =>
    intro l x l' h
    cases l with
    | nil => simp [unflat] at h
    | cons v l =>
      simp only [unflat] at h
      split at h
      · simp only [Option.some.injEq, Prod.mk.injEq] at h
        rw [← h.2]
        simp [K.cells, Nat.add_comm]
      · cases h
  | str =>
    intro l x l' h
    cases l with
    | nil => simp [unflat] at h
    | cons v l =>
      simp only [unflat] at h
      split at h
      · simp only [Option.some.injEq, Prod.mk.injEq] at h
        rw [← h.2]
        simp [K.cells, Nat.add_comm]
      · cases h
  | slice k _ =>
    intro l x l' h
    cases l with
    | nil => simp [unflat] at h
    | cons v l =>
      simp only [unflat] at h
      split at h
      · simp only [Option.some.injEq, Prod.mk.injEq] at h
        rw [← h.2]
        simp [K.cells, Nat.add_comm]
      · cases h
  | unit => intro l x l' h; simp only [unflat, Option.some.injEq, Prod.mk.injEq] at h; rw [h.2]; simp [K.cells]
  | one k ih => exact fun l x l' h => ih l x l' h
  | pair a b iha ihb =>
    intro l x l' h
    simp only [unflat] at h
    split at h
    · rename_i y l2 hy
      split at h
      · rename_i z l3 hz
        simp only [Option.some.injEq, Prod.mk.injEq] at h
        rw [iha _ _ _ hy, ihb _ _ _ hz, ← h.2, K.cells]; omega
      · cases h
    · cases h
  | arr n k ih => exact fun l x l' h => unflatN_len ih n l x l' h
theorem boxOf_io {h : Nat → Option Row} {j ty : Nat} {k : K} {v : AV} {x : T k} (hx : boxOf h ty k v = some x) : IoR h [(j, true, ty, k)] (v.ids.map (j, ·)) := by
  unfold boxOf at hx
  split at hx
  · split at hx
    · rename_i id ver rv ty' cs hrow
      split at hx
      · split at hx
        · rename_i y hy
          refine ⟨rfl, ⟨_, hrow, rfl, fun _ => ⟨cs, rfl, ?_⟩, fun h => by cases h⟩, trivial⟩
          have := unflat_len _ _ _ _ hy
          simpa using this
        · cases hx
      · cases hx
    · cases hx
  · cases hx
theorem capsOf_io {h : Nat → Option Row} : ∀ {ks : List CM} {vs : List AV} {l : List PV}, capsOf h ks vs = some l → IoR h (capIo ks) (capIds ks vs)
  | [], [], l, hl => trivial
  | .ro k :: ks, v :: vs, l, hl => by
    simp only [capsOf] at hl
    split at hl
    · split at hl
      · rename_i l2 hl2; exact capsOf_io (ks := ks) hl2
      · cases hl
    · cases hl
  | .io j ty k :: ks, v :: vs, l, hl => by
    simp only [capsOf] at hl
    split at hl
    · rename_i x hx
      split at hl
      · rename_i l2 hl2; exact (boxOf_io (j := j) hx).app (capsOf_io (ks := ks) hl2)
      · cases hl
    · cases hl
  | [], _ :: _, l, hl => by simp [capsOf] at hl
  | .ro _ :: _, [], l, hl => by simp [capsOf] at hl
  | .io _ _ _ :: _, [], l, hl => by simp [capsOf] at hl
theorem argsOf_io {h : Nat → Option Row} : ∀ {is : List IM} {vs : List AV} {l : List PV}, argsOf h is vs = some l → IoR h (ioIns is) (ioIds is vs) := by
  intro is
  induction is with
  | nil => intro vs l hl; cases vs with
    | nil => trivial
    | cons v vs => simp [argsOf] at hl
  | cons m is ih =>
    intro vs l hl
    cases vs with
    | nil => cases m <;> simp [argsOf] at hl
    | cons v vs =>
      cases m with
      | v k =>
        simp only [argsOf] at hl
        split at hl
        · split at hl
          · rename_i l2 hl2; exact ih hl2
          · cases hl
        · cases hl
      | pl k =>
        simp only [argsOf] at hl
        split at hl
        · split at hl
          · rename_i l2 hl2; exact ih hl2
          · cases hl
        · cases hl
      | f g ks =>
        cases v with
        | fn g' cs =>
          simp only [argsOf] at hl
          split at hl
          · split at hl
            · rename_i l1 hl1
              split at hl
              · rename_i l2 hl2; exact (capsOf_io hl1).app (ih hl2)
              · cases hl
            · cases hl
          · cases hl
        | _ => simp [argsOf] at hl
      | b j ty k =>
        simp only [argsOf] at hl
        split at hl
        · rename_i x hx
          split at hl
          · rename_i l2 hl2; exact (boxOf_io (j := j) hx).app (ih hl2)
          · cases hl
        · cases hl
      | r j ty k fl =>
        cases v with
        | slw id ver fl' =>
          simp only [argsOf] at hl
          split at hl
          · rename_i rv ty' k' xs hrow
            split at hl
            · rename_i hc
              obtain ⟨rfl, rfl, rfl, _⟩ := hc
              split at hl
              · rename_i l2 hl2
                exact ⟨rfl, ⟨_, hrow, rfl, fun h => (by cases h), fun _ => ⟨xs, rfl⟩⟩, ih hl2⟩
              · cases hl
            · cases hl
          · cases hl
        | _ => simp [argsOf] at hl
      | s j ty k =>
        cases v with
        | sl id ver off len =>
          simp only [argsOf] at hl
          split at hl
          · rename_i rv ty' k' xs hrow
            split at hl
            · rename_i hc
              obtain ⟨rfl, rfl, rfl⟩ := hc
              split at hl
              · rename_i l2 hl2
                exact ⟨rfl, ⟨_, hrow, rfl, fun h => (by cases h), fun _ => ⟨xs, rfl⟩⟩, ih hl2⟩
              · cases hl
            · cases hl
          · cases hl
        | _ => simp [argsOf] at hl
/-- The rows that a callee wrote. -/
theorem upd_ok {hh h0 : Nat → Option Row} {w' : World} {n0 : Nat} {rd : Nat → Prop} {ios : Nat → Option Value} {ρ : Nat → Value} :
    ∀ {outs : List RM} {ps : List PV} {vs : List Value} {bs : List Nat} {io : List (Nat × Nat)}, IoR hh (ioOuts outs) io → (∀ p ∈ io, ios p.1 = some (ρ p.2)) → ResRel w' n0 rd ios outs ps vs bs →
    (ioUpd h0 io outs ps).map (·.1) = io.map (·.2) ∧ ∀ q ∈ ioUpd h0 io outs ps, q.2.wr = true ∧ q.2.ver = verOf h0 q.1 ∧ ∃ r, hh q.1 = some r ∧ r.wr = true ∧
      ((∃ cs k x, r.b = .cells cs ∧ cs.length = k.cells ∧ q.2.b = .cells (flat k x) ∧ BoxR w' rd q.2.ty k x (ρ q.1)) ∨ (∃ k xs ys, r.b = .list k xs ∧ q.2.b = .list k ys ∧ ListR w' rd q.2.ty k ys (ρ q.1)))
  | [], [], vs, bs, [], h, hio, hr => ⟨rfl, fun q hq => by simp [ioUpd] at hq⟩
  | .v k :: ms, p :: ps, vs, bs, io, h, hio, hr => by
    obtain ⟨v, vs', rfl, hk, h1, h2⟩ := hr
    have := upd_ok (outs := ms) (h0 := h0) h hio h2
    cases io <;> simpa only [ioUpd] using this
  | .c k :: ms, ⟨.slice k', xs⟩ :: ps, vs, bs, io, h, hio, hr => by
    obtain ⟨v, vs', rfl, hk, hA, h1, h2⟩ := hr
    have := upd_ok (outs := ms) (h0 := h0) h hio h2
    cases io <;> simpa only [ioUpd] using this
  | .o ty k fl :: ms, ⟨.slice k', xs⟩ :: ps, vs, bs, io, h, hio, hr => by
    obtain ⟨v, vs', bs', vals, rfl, hk, hb, h1, h2, h3, h4⟩ := hr
    have := upd_ok (outs := ms) (h0 := h0) h hio h4
    cases io <;> simpa only [ioUpd] using this
  | .b j ty k :: ms, ⟨k', x⟩ :: ps, vs, bs, q :: io, h, hio, hr => by
    obtain ⟨e1, ⟨r, e2, e3, e4, _⟩, e5⟩ := h
    obtain ⟨⟨v, g1, g2, g3⟩, g4⟩ := hr
    obtain ⟨a1, a2⟩ := upd_ok (outs := ms) (h0 := h0) e5 (fun p hp => hio p (List.mem_cons_of_mem _ hp)) g4
    have g2 : k' = k := g2
    subst g2
    have hv : v = ρ q.2 := by
      have := hio q (by simp)
      rw [show q.1 = j from e1, g1] at this
      exact Option.some.inj this
    refine ⟨by simp only [ioUpd, List.map_cons, a1], fun p hp => ?_⟩
    simp only [ioUpd] at hp
    rcases List.mem_cons.1 hp with rfl | hp
    · obtain ⟨cs, c1, c2⟩ := e4 rfl
      exact ⟨rfl, rfl, r, e2, e3, .inl ⟨cs, k', x, c1, c2, rfl, by rw [← hv]; exact g3⟩⟩
    · exact a2 p hp
  | .r j ty k :: ms, ⟨.slice k', xs⟩ :: ps, vs, bs, q :: io, h, hio, hr => by
    obtain ⟨e1, ⟨r, e2, e3, _, e4⟩, e5⟩ := h
    obtain ⟨⟨v, g1, g2, g3⟩, g4⟩ := hr
    obtain ⟨a1, a2⟩ := upd_ok (outs := ms) (h0 := h0) e5 (fun p hp => hio p (List.mem_cons_of_mem _ hp)) g4
    subst g2
    have hv : v = ρ q.2 := by
      have := hio q (by simp)
      rw [show q.1 = j from e1, g1] at this
      exact Option.some.inj this
    refine ⟨by simp only [ioUpd, List.map_cons, a1], fun p hp => ?_⟩
    simp only [ioUpd] at hp
    rcases List.mem_cons.1 hp with rfl | hp
    · obtain ⟨ys, c1⟩ := e4 rfl
      exact ⟨rfl, rfl, r, e2, e3, .inr ⟨k', ys, xs, c1, rfl, by rw [← hv]; exact g3⟩⟩
    · exact a2 p hp
  | [], _ :: _, vs, bs, io, h, hio, hr => by simp [ResRel] at hr
  | [], [], vs, bs, _ :: _, h, hio, hr => by simp [IoR, ioOuts] at h
  | .b j ty k :: ms, p :: ps, vs, bs, [], h, hio, hr => by simp [IoR, ioOuts] at h
  | .r j ty k :: ms, p :: ps, vs, bs, [], h, hio, hr => by simp [IoR, ioOuts] at h
  | .v k :: ms, [], vs, bs, io, h, hio, hr => by simp [ResRel] at hr
  | .c k :: ms, [], vs, bs, io, h, hio, hr => by simp [ResRel] at hr
  | .o ty k fl :: ms, [], vs, bs, io, h, hio, hr => by simp [ResRel] at hr
  | .b j ty k :: ms, [], vs, bs, io, h, hio, hr => by simp [ResRel] at hr
  | .r j ty k :: ms, [], vs, bs, io, h, hio, hr => by simp [ResRel] at hr
  | .c k :: ms, ⟨.int _, _⟩ :: ps, vs, bs, io, h, hio, hr => by simp [ResRel] at hr
  | .c k :: ms, ⟨.bool, _⟩ :: ps, vs, bs, io, h, hio, hr => by simp [ResRel] at hr
  | .c k :: ms, ⟨.str, _⟩ :: ps, vs, bs, io, h, hio, hr => by simp [ResRel] at hr
  | .c k :: ms, ⟨.pair _ _, _⟩ :: ps, vs, bs, io, h, hio, hr => by simp [ResRel] at hr
  | .c k :: ms, ⟨.one _, _⟩ :: ps, vs, bs, io, h, hio, hr => by simp [ResRel] at hr
  | .c k :: ms, ⟨.unit, _⟩ :: ps, vs, bs, io, h, hio, hr => by simp [ResRel] at hr
  | .c k :: ms, ⟨.arr _ _, _⟩ :: ps, vs, bs, io, h, hio, hr => by simp [ResRel] at hr
  | .o ty k fl :: ms, ⟨.int _, _⟩ :: ps, vs, bs, io, h, hio, hr => by simp [ResRel] at hr
  | .o ty k fl :: ms, ⟨.bool, _⟩ :: ps, vs, bs, io, h, hio, hr => by simp [ResRel] at hr
  | .o ty k fl :: ms, ⟨.str, _⟩ :: ps, vs, bs, io, h, hio, hr => by simp [ResRel] at hr
  | .o ty k fl :: ms, ⟨.pair _ _, _⟩ :: ps, vs, bs, io, h, hio, hr => by simp [ResRel] at hr
  | .o ty k fl :: ms, ⟨.one _, _⟩ :: ps, vs, bs, io, h, hio, hr => by simp [ResRel] at hr
  | .o ty k fl :: ms, ⟨.unit, _⟩ :: ps, vs, bs, io, h, hio, hr => by simp [ResRel] at hr
  | .o ty k fl :: ms, ⟨.arr _ _, _⟩ :: ps, vs, bs, io, h, hio, hr => by simp [ResRel] at hr
  | .r j ty k :: ms, ⟨.int _, _⟩ :: ps, vs, bs, _ :: io, h, hio, hr => by simp [ResRel] at hr
  | .r j ty k :: ms, ⟨.bool, _⟩ :: ps, vs, bs, _ :: io, h, hio, hr => by simp [ResRel] at hr
  | .r j ty k :: ms, ⟨.str, _⟩ :: ps, vs, bs, _ :: io, h, hio, hr => by simp [ResRel] at hr
  | .r j ty k :: ms, ⟨.pair _ _, _⟩ :: ps, vs, bs, _ :: io, h, hio, hr => by simp [ResRel] at hr
  | .r j ty k :: ms, ⟨.one _, _⟩ :: ps, vs, bs, _ :: io, h, hio, hr => by simp [ResRel] at hr
  | .r j ty k :: ms, ⟨.unit, _⟩ :: ps, vs, bs, _ :: io, h, hio, hr => by simp [ResRel] at hr
  | .r j ty k :: ms, ⟨.arr _ _, _⟩ :: ps, vs, bs, _ :: io, h, hio, hr => by simp [ResRel] at hr
theorem nodups_spec : ∀ {l : List Nat}, nodups l = true → l.Nodup
  | [], _ => List.nodup_nil
  | i :: l, h => by
    simp only [nodups, Bool.and_eq_true, Bool.not_eq_true'] at h
    refine List.nodup_cons.2 ⟨fun hm => ?_, nodups_spec h.2⟩
    have := List.contains_iff_mem.2 hm
    rw [this] at h
    exact absurd h.1 (by simp)
theorem disj_mem {a b : List Nat} (h : disj a b = true) : ∀ i ∈ a, i ∉ b := by
  intro i hi hb
  have := List.all_eq_true.1 h i hi
  rw [List.contains_iff_mem.2 hb] at this
  cases this
theorem lookup_mem {l : List (Nat × Nat)} (hn : (l.map (·.1)).Nodup) : ∀ p ∈ l, l.lookup p.1 = some p.2 := by
  induction l with
  | nil => intro p hp; simp at hp
  | cons q l ih =>
    intro p hp
    rw [List.map_cons, List.nodup_cons] at hn
    rcases List.mem_cons.1 hp with rfl | hp
    · simp [List.lookup]
    · have hne : p.1 ≠ q.1 := fun e => hn.1 (by rw [← e]; exact List.mem_map_of_mem hp)
      rw [List.lookup_cons, show (p.1 == q.1) = false by simpa using hne]
      exact ih hn.2 p hp
theorem mem_lookup {l : List (Nat × Nat)} {j i : Nat} (h : l.lookup j = some i) : (j, i) ∈ l := by
  induction l with
  | nil => simp at h
  | cons q l ih =>
    rw [List.lookup_cons] at h
    split at h
    · rename_i e
      simp only [beq_iff_eq] at e
      simp only [Option.some.injEq] at h
      subst e h
      simp
    · exact List.mem_cons_of_mem _ (ih h)
theorem hupd_or : ∀ (L : List (Nat × Row)) (h : Nat → Option Row) (i : Nat), (i ∉ L.map (·.1) ∧ hupd h L i = h i) ∨ ∃ row, (i, row) ∈ L ∧ hupd h L i = some row
  | [], h, i => .inl ⟨by simp, rfl⟩
  | p :: L, h, i => by
    rcases hupd_or L (upd h p.1 (some p.2)) i with ⟨h1, h2⟩ | ⟨row, h1, h2⟩
    · by_cases e : i = p.1
      · subst e
        right
        refine ⟨p.2, by simp, ?_⟩
        show hupd (upd h p.1 (some p.2)) L p.1 = _
        rw [h2, upd_same]
      · left
        refine ⟨by simp only [List.map_cons, List.mem_cons]; exact fun h => h.elim e h1, ?_⟩
        show hupd (upd h p.1 (some p.2)) L i = _
        rw [h2, upd_other _ _ e]
    · exact .inr ⟨row, List.mem_cons_of_mem _ h1, h2⟩
theorem inner_congr {h h' : Nat → Option Row} : ∀ {l : List Nat}, (∀ i ∈ l, h i = h' i) → inner h l = inner h' l
  | [], _ => rfl
  | i :: l, hh => by
    simp only [inner]
    rw [hh i (by simp), inner_congr fun j hj => hh j (List.mem_cons_of_mem _ hj)]
theorem ListR_len {w : World} {rd : Nat → Prop} {ty : Nat} {k : K} {xs : List (T k)} {v : Value} (h : ListR w rd ty k xs v) : ∃ A c, v = .slice A xs.length c := by
  obtain ⟨vals, ho, _⟩ := h
  rcases ho.2 with ⟨h1, h2⟩ | ⟨g, cap, cur, h1, _⟩
  · exact ⟨none, 0, by rw [h1, h2]⟩
  · exact ⟨_, _, h1⟩
theorem ResRel_len {w : World} {n0 : Nat} {rd : Nat → Prop} {ios : Nat → Option Value} : ∀ {outs : List RM} {ps : List PV} {vs : List Value} {bs : List Nat}, ResRel w n0 rd ios outs ps vs bs → ps.length = outs.length
  | [], [], vs, bs, h => rfl
  | .v k :: ms, p :: ps, vs, bs, h => by obtain ⟨_, _, _, _, _, h2⟩ := h; simp [ResRel_len h2]
  | .c k :: ms, ⟨.slice k', xs⟩ :: ps, vs, bs, h => by obtain ⟨_, _, _, _, _, _, h2⟩ := h; simp [ResRel_len h2]
  | .o ty k fl :: ms, ⟨.slice k', xs⟩ :: ps, vs, bs, h => by obtain ⟨_, _, _, _, _, _, _, _, _, _, h2⟩ := h; simp [ResRel_len h2]
  | .b j ty k :: ms, p :: ps, vs, bs, h => by simp [ResRel_len h.2]
  | .r j ty k :: ms, ⟨.slice k', xs⟩ :: ps, vs, bs, h => by simp [ResRel_len h.2]
  | [], _ :: _, vs, bs, h => by simp [ResRel] at h
  | .v k :: ms, [], vs, bs, h => by simp [ResRel] at h
  | .c k :: ms, [], vs, bs, h => by simp [ResRel] at h
  | .o ty k fl :: ms, [], vs, bs, h => by simp [ResRel] at h
  | .b j ty k :: ms, [], vs, bs, h => by simp [ResRel] at h
  | .r j ty k :: ms, [], vs, bs, h => by simp [ResRel] at h
  | .c k :: ms, ⟨.int _, _⟩ :: ps, vs, bs, h => by simp [ResRel] at h
  | .c k :: ms, ⟨.bool, _⟩ :: ps, vs, bs, h => by simp [ResRel] at h
  | .c k :: ms, ⟨.str, _⟩ :: ps, vs, bs, h => by simp [ResRel] at h
  | .c k :: ms, ⟨.pair _ _, _⟩ :: ps, vs, bs, h => by simp [ResRel] at h
  | .c k :: ms, ⟨.one _, _⟩ :: ps, vs, bs, h => by simp [ResRel] at h
  | .c k :: ms, ⟨.unit, _⟩ :: ps, vs, bs, h => by simp [ResRel] at h
  | .c k :: ms, ⟨.arr _ _, _⟩ :: ps, vs, bs, h => by simp [ResRel] at h
  | .o ty k fl :: ms, ⟨.int _, _⟩ :: ps, vs, bs, h => by simp [ResRel] at h
  | .o ty k fl :: ms, ⟨.bool, _⟩ :: ps, vs, bs, h => by simp [ResRel] at h
  | .o ty k fl :: ms, ⟨.str, _⟩ :: ps, vs, bs, h => by simp [ResRel] at h
  | .o ty k fl :: ms, ⟨.pair _ _, _⟩ :: ps, vs, bs, h => by simp [ResRel] at h
  | .o ty k fl :: ms, ⟨.one _, _⟩ :: ps, vs, bs, h => by simp [ResRel] at h
  | .o ty k fl :: ms, ⟨.unit, _⟩ :: ps, vs, bs, h => by simp [ResRel] at h
  | .o ty k fl :: ms, ⟨.arr _ _, _⟩ :: ps, vs, bs, h => by simp [ResRel] at h
  | .r j ty k :: ms, ⟨.int _, _⟩ :: ps, vs, bs, h => by simp [ResRel] at h
  | .r j ty k :: ms, ⟨.bool, _⟩ :: ps, vs, bs, h => by simp [ResRel] at h
  | .r j ty k :: ms, ⟨.str, _⟩ :: ps, vs, bs, h => by simp [ResRel] at h
  | .r j ty k :: ms, ⟨.pair _ _, _⟩ :: ps, vs, bs, h => by simp [ResRel] at h
  | .r j ty k :: ms, ⟨.one _, _⟩ :: ps, vs, bs, h => by simp [ResRel] at h
  | .r j ty k :: ms, ⟨.unit, _⟩ :: ps, vs, bs, h => by simp [ResRel] at h
  | .r j ty k :: ms, ⟨.arr _ _, _⟩ :: ps, vs, bs, h => by simp [ResRel] at h
theorem inner_sub {h : Nat → Option Row} : ∀ {a b : List Nat} {i : Nat}, (∀ j ∈ a, j ∈ b) → i ∈ inner h a → i ∈ inner h b
  | [], b, i, _, hi => by simp [inner] at hi
  | j :: a, b, i, hs, hi => by
    rw [inner_cons, List.mem_append] at hi
    rcases hi with hi | hi
    · have hj := hs j (by simp)
      obtain ⟨b1, b2, rfl⟩ := List.append_of_mem hj
      rw [inner_append, inner_cons]
      exact List.mem_append_right _ (List.mem_append_left _ hi)
    · exact inner_sub (fun k hk => hs k (List.mem_cons_of_mem _ hk)) hi
theorem capIds_mem : ∀ {ks : List CM} {vs : List AV} {p : Nat × Nat}, p ∈ capIds ks vs → p.2 ∈ AV.idss vs
  | [], vs, p, h => by simp [capIds] at h
  | .io j ty k :: ks, v :: vs, p, h => by
    simp only [capIds, List.mem_append, List.mem_map] at h
    simp only [AV.idss, List.mem_append]
    rcases h with ⟨i, hi, rfl⟩ | h
    · exact .inl hi
    · exact .inr (capIds_mem h)
  | .ro k :: ks, v :: vs, p, h => by
    simp only [AV.idss, List.mem_append]
    exact .inr (capIds_mem (ks := ks) h)
  | .io _ _ _ :: _, [], p, h => by simp [capIds] at h
  | .ro _ :: _, [], p, h => by simp [capIds] at h
theorem capRo_mem : ∀ {ks : List CM} {vs : List AV} {i : Nat}, i ∈ capRo ks vs → i ∈ AV.idss vs
  | [], vs, i, h => by simp [capRo] at h
  | .ro k :: ks, v :: vs, i, h => by
    simp only [capRo, List.mem_append] at h
    simp only [AV.idss, List.mem_append]
    exact h.imp (fun h => h) fun h => capRo_mem h
  | .io j ty k :: ks, v :: vs, i, h => by
    simp only [AV.idss, List.mem_append]
    exact .inr (capRo_mem (ks := ks) h)
  | .io _ _ _ :: _, [], i, h => by simp [capRo] at h
  | .ro _ :: _, [], i, h => by simp [capRo] at h
theorem ioIds_mem : ∀ {is : List IM} {vs : List AV} {p : Nat × Nat}, p ∈ ioIds is vs → p.2 ∈ AV.idss vs := by
  intro is
  induction is with
  | nil => intro vs p h; simp [ioIds] at h
  | cons m is ih =>
    intro vs p h
    cases vs with
    | nil => cases m <;> simp [ioIds] at h
    | cons v vs =>
      simp only [AV.idss, List.mem_append]
      cases m with
      | v k => exact .inr (ih (by simpa [ioIds] using h))
      | pl k => exact .inr (ih (by simpa [ioIds] using h))
      | f g ks =>
        cases v with
        | fn g' us =>
          simp only [ioIds, List.mem_append] at h
          rcases h with h | h
          · exact .inl (by simpa [AV.ids] using capIds_mem h)
          · exact .inr (ih h)
        | _ => exact .inr (ih (by simpa [ioIds] using h))
      | _ =>
        simp only [ioIds, List.mem_append, List.mem_map] at h
        rcases h with ⟨i, hi, rfl⟩ | h
        · exact .inl hi
        · exact .inr (ih h)
theorem roIds_mem : ∀ {is : List IM} {vs : List AV} {i : Nat}, i ∈ roIds is vs → i ∈ AV.idss vs := by
  intro is
  induction is with
  | nil => intro vs p h; simp [roIds] at h
  | cons m is ih =>
    intro vs p h
    cases vs with
    | nil => cases m <;> simp [roIds] at h
    | cons v vs =>
      simp only [AV.idss, List.mem_append]
      cases m with
      | v k => simp only [roIds, List.mem_append] at h; exact h.imp (fun h => h) fun h => ih h
      | pl k => simp only [roIds, List.mem_append] at h; exact h.imp (fun h => h) fun h => ih h
      | f g ks =>
        cases v with
        | fn g' us =>
          simp only [roIds, List.mem_append] at h
          rcases h with h | h
          · exact .inl (by simpa [AV.ids] using capRo_mem h)
          · exact .inr (ih h)
        | _ => exact .inr (ih (by simpa [roIds] using h))
      | _ => exact .inr (ih (by simpa [roIds] using h))
theorem nodup_snd {io : List (Nat × Nat)} (hn : (io.map (·.2)).Nodup) {p q : Nat × Nat} (hp : p ∈ io) (hq : q ∈ io) (h : p.2 = q.2) : p = q := by
  induction io with
  | nil => simp at hp
  | cons r io ih =>
    rw [List.map_cons, List.nodup_cons] at hn
    rcases List.mem_cons.1 hp with e | hp
    · rcases List.mem_cons.1 hq with e' | hq
      · rw [e, e']
      · exact absurd (List.mem_map_of_mem (f := (·.2)) hq) (by show ¬ q.2 ∈ _; rw [← h, e]; exact hn.1)
    · rcases List.mem_cons.1 hq with e' | hq
      · exact absurd (List.mem_map_of_mem (f := (·.2)) hp) (by show ¬ p.2 ∈ _; rw [h, e']; exact hn.1)
      · exact ih hn.2 hp hq
theorem farRM_one : ∀ l : List RM, 0 < numO l → farRM l = true
  | [], h => by simp [numO] at h
  | .v k :: l, h => by simp only [farRM, farRM_one l (by simpa [numO] using h), Bool.or_true]
  | .b j ty k :: l, h => by simp only [farRM, farRM_one l (by simpa [numO] using h), Bool.or_true]
  | .r j ty k :: l, h => by simp only [farRM, farRM_one l (by simpa [numO] using h), Bool.or_true]
  | .c k :: l, h => by simp [farRM]
  | .o ty k fl :: l, h => by simp [farRM]
/-- A call: what the caller knows behind it. -/
theorem call_core {sp : Spec} {f : Nat} (hspec : SpecOK P f sp) (hsub : ∀ id row, h' id = some row → s.h id = some row) {d : Nat} {args : List AV} {us : Array Value}
    (hfoot : ∀ i ∈ AV.idss args, h' i = s.h i) (hfoot2 : ∀ i ∈ inner s.h (AV.idss args), h' i = s.h i) (hres : ∀ j, j < 8 → h' (1000000 + d * 16 + j) = s.h (1000000 + d * 16 + j))
    (hlen : sp.outs.length ≤ 8) (hnum : numO sp.outs ≤ 1) (hk1 : nodups ((ioIds sp.ins args).map (·.1)) = true) (hk2 : nodups ((ioIds sp.ins args).map (·.2)) = true)
    (hdis : disj ((ioIds sp.ins args).map (·.2)) ((List.range 8).map (1000000 + d * 16 + ·) ++ roIds sp.ins args ++ inner h' ((ioIds sp.ins args).map (·.2))) = true)
    {l : List PV} (hl : argsOf (hupd h' (callF h' sp args)) sp.ins args = some l) {x : Leafs (IM.ks sp.ins)} (hx : leafs (IM.ks sp.ins) l = some x) {y : Leafs (RM.ks sp.outs)} (hy : sp.f x = some y)
    {ρ : Nat → Value} {a : Act} {w : World} (I : Inv C ρ s a w) (hargs : rels (envOf C ρ s.h w) args us.toList) :
    Calls P f us w fun en w' => ∃ v ρ', en = .returned v ∧
      Inv C ρ' ⟨s.t, hupd s.h (callF h' sp args ++ (ioUpd h' (ioIds sp.ins args) sp.outs (unL (RM.ks sp.outs) y) ++ (resV d h' 0 sp.outs (unL (RM.ks sp.outs) y)).2))⟩ a w' ∧
      rel (envOf C ρ' (hupd s.h (callF h' sp args ++ (ioUpd h' (ioIds sp.ins args) sp.outs (unL (RM.ks sp.outs) y) ++ (resV d h' 0 sp.outs (unL (RM.ks sp.outs) y)).2))) w') (resOf (resV d h' 0 sp.outs (unL (RM.ks sp.outs) y)).1) v := by
  classical
  have hul := leafs_unL hx
  have hd1 := disj_mem hdis
  have n1 := nodups_spec hk1
  have n2 := nodups_spec hk2
  generalize hF0 : callF h' sp args = F at *
  generalize hio0 : ioIds sp.ins args = io at *
  have hioid : ∀ p ∈ io, p.2 ∈ AV.idss args := fun p hp => ioIds_mem (by rw [hio0]; exact hp)
  have hin : inner h' (io.map (·.2)) = inner s.h (io.map (·.2)) := inner_congr fun j hj => by
    obtain ⟨p, hp, rfl⟩ := List.mem_map.1 hj
    exact hfoot _ (hioid p hp)
  have hinfoot : ∀ i ∈ inner h' (io.map (·.2)), h' i = s.h i := fun i hi => by
    rw [hin] at hi
    exact hfoot2 i (inner_sub (fun j hj => by
      obtain ⟨p, hp, rfl⟩ := List.mem_map.1 hj
      exact hioid p hp) hi)
  have hF : ∀ p ∈ F, ∃ r, s.h p.1 = some r ∧ p.2 = { r with wr := false } := by
    intro p hp
    rw [← hF0] at hp
    exact freeze_mem hsub _ p hp
  have hFi : ∀ p ∈ F, p.1 ∈ roIds sp.ins args ++ inner h' (io.map (·.2)) := by
    intro p hp
    rw [← hF0] at hp
    unfold callF at hp
    rw [hio0] at hp
    have := freeze_fst _ p hp
    split at this
    · exact this
    · exact List.mem_append_right _ (by simpa using this)
  obtain ⟨IF, mF, fF, vF, _⟩ := I.freezes F s hF
  have hsubF : ∀ id row, hupd h' F id = some row → hupd s.h F id = some row := hupd_sub F hsub
  have hargsF := rels_mono mF hargs
  have hIo := argsOf_io hl
  rw [hio0] at hIo
  -- the rows that are handed in stand as before
  have hioF : ∀ p ∈ io, p.2 ∉ F.map (·.1) := by
    intro p hp hm
    obtain ⟨q, hq, he⟩ := List.mem_map.1 hm
    have := hFi q hq
    refine hd1 p.2 (List.mem_map_of_mem hp) ?_
    rw [← he, List.append_assoc]
    exact List.mem_append_right _ this
  have hioRow : ∀ p ∈ io, ∃ r, hupd s.h F p.2 = some r ∧ r.wr = true := fun p hp => by
    obtain ⟨r, h1, h2⟩ := hIo.mem p hp
    exact ⟨r, hsubF _ _ h1, h2⟩
  let ios : Nat → Option Value := fun j => (io.lookup j).map ρ
  have hios : ∀ p ∈ io, ios p.1 = some (ρ p.2) := fun p hp => by
    show (io.lookup p.1).map ρ = _
    rw [lookup_mem n1 p hp]; rfl
  have hiosb : ∀ b, iob ios b → ∃ p ∈ io, blk (ρ p.2) = some b := by
    rintro b ⟨j, v, h1, h2⟩
    obtain ⟨i, hi, rfl⟩ := Option.map_eq_some_iff.1 h1
    exact ⟨(j, i), mem_lookup hi, h2⟩
  -- what the callee may read
  let ok : Nat → Prop := fun b => (if farRM sp.outs = true then Rd C (hupd s.h F) ρ w b else b < w.heap.size) ∧ ¬ iob ios b
  have hnio : ∀ b, Rd C (hupd s.h F) ρ w b → ¬ iob ios b := by
    intro b hb hi
    obtain ⟨p, hp, hb2⟩ := hiosb b hi
    obtain ⟨r, h1, h2⟩ := hioRow p hp
    exact hb.2.2 p.2 r h1 h2 hb2
  have hok : ∀ b, ok b → b < w.heap.size := by
    rintro b ⟨hb, _⟩
    split at hb
    · exact hb.1
    · exact hb
  have hrd : ∀ b, Rd C (hupd s.h F) ρ w b → ok b := by
    intro b hb
    refine ⟨?_, hnio b hb⟩
    split
    · exact hb
    · exact hb.1
  have hfrz : ∀ i ∈ F.map (·.1), ∀ r, hupd s.h F i = some r → ∀ b, blk (ρ i) = some b → ok b := by
    intro i hi r hr b hb
    obtain ⟨p, hp, he⟩ := List.mem_map.1 hi
    obtain ⟨r2, h2, h3⟩ := fF i ⟨p, hp, he⟩
    have h2 : hupd s.h F i = some r2 := h2
    exact hrd b (frozen_rd IF (id := i) h2 h3 hb)
  have hback : ∀ i r, hupd s.h F i = some r → ∃ r0, s.h i = some r0 ∧ r.ver = r0.ver := by
    intro i r hr
    have := vF i
    rw [hr] at this
    cases h : s.h i with
    | none => rw [h] at this; simp at this
    | some r0 => rw [h] at this; simp at this; exact ⟨r0, rfl, this⟩
  have hown : ∀ i ∈ roIds sp.ins args ++ inner (hupd h' F) (io.map (·.2)), ∀ r, hupd s.h F i = some r → ∀ b, blk (ρ i) = some b → ok b := by
    intro i hi r hr b hb
    obtain ⟨r0, hr0, _⟩ := hback i r hr
    have hinF : inner (hupd h' F) (io.map (·.2)) = inner h' (io.map (·.2)) := inner_congr fun j hj => by
      obtain ⟨p, hp, rfl⟩ := List.mem_map.1 hj
      rcases hupd_or F h' p.2 with ⟨_, h⟩ | ⟨row, h, _⟩
      · exact h
      · exact absurd (List.mem_map_of_mem (f := (·.1)) h) (hioF p hp)
    rw [hinF] at hi
    have hlt := (IF.rows i r hr).blk_lt hb
    rcases List.mem_append.1 hi with hi | hi
    · by_cases hfar : farRM sp.outs = true
      · refine hfrz i ?_ r hr b hb
        obtain ⟨p, hp, he⟩ := freeze_has (h' := h') ((if farRM sp.outs = true then roIds sp.ins args else []) ++ inner h' ((ioIds sp.ins args).map (·.2))) i (by rw [if_pos hfar]; exact List.mem_append_left _ hi) (by rw [hfoot i (roIds_mem hi), hr0]; rfl)
        exact List.mem_map.2 ⟨p, by rw [← hF0]; exact hp, he⟩
      · refine ⟨by rw [if_neg hfar]; exact hlt.2, fun hib => ?_⟩
        obtain ⟨p, hp, hb2⟩ := hiosb b hib
        obtain ⟨r1, h1, _⟩ := hioRow p hp
        have := IF.inj i p.2 r r1 b hr h1 hb hb2
        refine hd1 p.2 (List.mem_map_of_mem hp) ?_
        rw [← this]
        exact List.mem_append_left _ (List.mem_append_right _ hi)
    · refine hfrz i ?_ r hr b hb
      obtain ⟨p, hp, he⟩ := freeze_has (h' := h') ((if farRM sp.outs = true then roIds sp.ins args else []) ++ inner h' ((ioIds sp.ins args).map (·.2))) i (by rw [hio0]; exact List.mem_append_right _ hi) (by rw [hinfoot i hi, hr0]; rfl)
      exact List.mem_map.2 ⟨p, by rw [← hF0]; exact hp, he⟩
  have hpv : PVs w ok ios sp.ins (unL (IM.ks sp.ins) x) us.toList := by
    rw [hul]
    exact argsOf_gen IF hrd hsubF (by rw [hio0]; exact hown) (by rw [hio0]; exact hios) hl hargsF
  refine (hspec.calls x y hy w ok ios us hok (fun j v hj => ?_) (fun b hb => ?_) (fun i j u v b hi hj hb hb' => ?_) hpv).mono fun en w' hh => ?_
  · obtain ⟨i, hi, _⟩ := Option.map_eq_some_iff.1 hj
    have hm := mem_lookup hi
    rw [hIo.keys]
    exact List.mem_map_of_mem (f := (·.1)) hm
  · obtain ⟨p, hp, hb2⟩ := hiosb b hb
    obtain ⟨r, h1, _⟩ := hioRow p hp
    exact ⟨((IF.rows p.2 r h1).blk_lt hb2).2, fun h => h.2 hb⟩
  · obtain ⟨p, hp, rfl⟩ := Option.map_eq_some_iff.1 hi
    obtain ⟨q, hq, rfl⟩ := Option.map_eq_some_iff.1 hj
    have hp := mem_lookup hp
    have hq := mem_lookup hq
    obtain ⟨r, h1, _⟩ := hioRow _ hp
    obtain ⟨r1, h2, _⟩ := hioRow _ hq
    have := IF.inj p q r r1 b h1 h2 hb hb'
    have := nodup_snd n2 hp hq this
    exact congrArg Prod.fst this
  obtain ⟨v, rfl, hbel, vs, bs, rfl, hnd, hrr⟩ := hh
  have hIoO : IoR (hupd h' F) (ioOuts sp.outs) io := by rw [hspec.io]; exact hIo
  -- the rows behind the call
  have step : ∀ (newU : List (Nat × Row)) (ρ' : Nat → Value), (resV d h' 0 sp.outs (unL (RM.ks sp.outs) y)).2 = newU → (∀ i, i ∉ newU.map (·.1) → ρ' i = ρ i) → (∀ q ∈ newU, ∃ j, j < 8 ∧ q.1 = 1000000 + d * 16 + j) →
      (∀ q ∈ newU, q.2.ver = nver h' q.1 ∧ ∀ b, blk (ρ' q.1) = some b → w.heap.size ≤ b ∧ b ∈ bs) → (∀ q ∈ newU, ∀ q' ∈ newU, q.1 = q'.1) →
      ((∀ b, (b < w'.heap.size ∧ (ok b ∨ w.heap.size ≤ b) ∧ b ∉ bs) → Rd C (hupd (hupd (hupd s.h F) (ioUpd h' io sp.outs (unL (RM.ks sp.outs) y))) newU) ρ' w' b) ∨ farRM sp.outs = false) →
      ((∀ q ∈ newU, ∀ row, hupd (hupd (hupd s.h F) (ioUpd h' io sp.outs (unL (RM.ks sp.outs) y))) newU q.1 = some row → RowOK C (envOf C ρ' (hupd (hupd (hupd s.h F) (ioUpd h' io sp.outs (unL (RM.ks sp.outs) y))) newU) w') (ρ' q.1) row)) →
      Inv C ρ' ⟨s.t, hupd (hupd (hupd s.h F) (ioUpd h' io sp.outs (unL (RM.ks sp.outs) y))) newU⟩ a w' ∧
      ResRel w' w.heap.size (Rd C (hupd (hupd (hupd s.h F) (ioUpd h' io sp.outs (unL (RM.ks sp.outs) y))) newU) ρ' w') ios sp.outs (unL (RM.ks sp.outs) y) vs bs := by
    intro newU ρ' hnew hρ hid hver hone hfar hrow
    have hrr2 : ResRel w' w.heap.size (Rd C (hupd (hupd (hupd s.h F) (ioUpd h' io sp.outs (unL (RM.ks sp.outs) y))) newU) ρ' w') ios sp.outs (unL (RM.ks sp.outs) y) vs bs := by
      rcases hfar with h | h
      · exact ResRel_mono h hrr
      · exact res_near h hrr
    refine ⟨?_, hrr2⟩
    obtain ⟨u1, u2⟩ := upd_ok (h0 := h') (ρ := ρ) hIoO hios hrr2
    have hnewio : ∀ q ∈ newU, ∀ p ∈ io, q.1 ≠ p.2 := by
      intro q hq p hp he
      obtain ⟨j, hj, hqj⟩ := hid q hq
      refine hd1 p.2 (List.mem_map_of_mem hp) ?_
      rw [← he, hqj]
      exact List.mem_append_left _ (List.mem_append_left _ (List.mem_map.2 ⟨j, by simpa using hj, rfl⟩))
    have hver2 : ∀ i r, hupd s.h F i = some r → h' i = s.h i → verOf h' i = r.ver ∧ r.ver < nver h' i := by
      intro i r hr hh
      obtain ⟨r0, h1, h2⟩ := hback i r hr
      simp [verOf, nver, hh, h1, h2]
    refine (IF.many (fun i => i ∈ newU.map (·.1)) (fun i => i ∈ io.map (·.2)) (iob := iob ios) (w' := w') (ρ' := ρ') (h2 := hupd (hupd (hupd s.h F) (ioUpd h' io sp.outs (unL (RM.ks sp.outs) y))) newU) hbel (fun b hb => ?_) (fun i h1 h2 => ?_) (fun i hi => ?_) (fun i hi => ?_) (fun i j b hi hj _ _ => ?_) (fun m i row hi hr => ?_)).1
    · obtain ⟨p, hp, hb2⟩ := hiosb b hb
      obtain ⟨r, h1, _⟩ := hioRow p hp
      exact ⟨p.2, r, List.mem_map_of_mem hp, h1, hb2⟩
    · rcases hupd_or newU (hupd (hupd s.h F) (ioUpd h' io sp.outs (unL (RM.ks sp.outs) y))) i with ⟨_, h⟩ | ⟨row, h, _⟩
      · rcases hupd_or (ioUpd h' io sp.outs (unL (RM.ks sp.outs) y)) (hupd s.h F) i with ⟨_, h3⟩ | ⟨row, h3, _⟩
        · exact ⟨h.trans h3, hρ i h1⟩
        · exact absurd (by rw [← u1]; exact List.mem_map_of_mem (f := (·.1)) h3) h2
      · exact absurd (List.mem_map_of_mem (f := (·.1)) h) h1
    · obtain ⟨p, hp, rfl⟩ := List.mem_map.1 hi
      have hnn : p.2 ∉ newU.map (·.1) := fun hm => by
        obtain ⟨q, hq, he⟩ := List.mem_map.1 hm
        exact hnewio q hq p hp he
      refine ⟨hnn, ?_⟩
      have hi2 : p.2 ∈ (ioUpd h' io sp.outs (unL (RM.ks sp.outs) y)).map (·.1) := by rw [u1]; exact hi
      rcases hupd_or newU (hupd (hupd s.h F) (ioUpd h' io sp.outs (unL (RM.ks sp.outs) y))) p.2 with ⟨_, h⟩ | ⟨row, h, _⟩
      rotate_left
      · exact absurd (List.mem_map_of_mem (f := (·.1)) h) hnn
      rcases hupd_or (ioUpd h' io sp.outs (unL (RM.ks sp.outs) y)) (hupd s.h F) p.2 with ⟨h3, _⟩ | ⟨row, h3, h4⟩
      · exact absurd hi2 h3
      obtain ⟨v1, v2, r, v3, v4, v5⟩ := u2 _ h3
      have v3 := hsubF _ _ v3
      refine ⟨r, row, v3, h.trans h4, v4, ?_, ?_, hρ _ hnn⟩
      · rw [v2]
        exact (hver2 p.2 r v3 (hfoot _ (hioid p hp))).1
      · rcases v5 with ⟨cs, k, x, c1, c2, c3, c4⟩ | ⟨k, xs, ys, c1, c3, c4⟩
        · have c3 : row.b = .cells (flat k x) := c3
          rw [c1, c3]
          show cs.length = (flat k x).length
          obtain ⟨g, cur, _, _, hrc⟩ := c4
          have := rels_len (flat_ok (E := envOf C ρ' (hupd (hupd (hupd s.h F) (ioUpd h' io sp.outs (unL (RM.ks sp.outs) y))) newU) w') k x _ hrc)
          rw [c2, ← this, RC_len hrc]
        · have c3 : row.b = .list k ys := c3
          rw [c1, c3]
          refine ⟨rfl, ?_⟩
          obtain ⟨A, c, hv⟩ := ListR_len c4
          have hro := IF.rows p.2 r v3
          unfold RowOK at hro
          rw [c1] at hro
          obtain ⟨vals, ho, _⟩ := hro
          rcases ho.2 with ⟨h5, h6⟩ | ⟨g, cap, cur, h5, _⟩
          · have hv : ρ p.2 = _ := hv
            rw [h5] at hv
            simp only [Value.slice.injEq] at hv
            omega
          · have hv : ρ p.2 = _ := hv
            rcases h5 with h5 | ⟨h5, _⟩
            · rw [h5] at hv
              simp only [Value.slice.injEq] at hv
              exact hv.2.1
            · rw [h5] at hv; cases hv
    · rcases hupd_or newU (hupd (hupd s.h F) (ioUpd h' io sp.outs (unL (RM.ks sp.outs) y))) i with ⟨h, _⟩ | ⟨row, h, h2⟩
      · exact absurd hi h
      · refine ⟨row, h2, fun r hr => ?_, fun b hb => ((hver _ h).2 b hb).1⟩
        rw [(hver _ h).1]
        obtain ⟨j, hj, hqj⟩ := hid _ h
        exact (hver2 i r hr (by rw [show i = 1000000 + d * 16 + j from hqj]; exact hres j hj)).2
    · obtain ⟨q, hq, rfl⟩ := List.mem_map.1 hi
      obtain ⟨q', hq', rfl⟩ := List.mem_map.1 hj
      exact hone q hq q' hq'
    · by_cases hin : i ∈ newU.map (·.1)
      · obtain ⟨q, hq, rfl⟩ := List.mem_map.1 hin
        exact hrow q hq row hr
      · have hii : i ∈ io.map (·.2) := hi.resolve_left hin
        obtain ⟨p, hp, rfl⟩ := List.mem_map.1 hii
        have hi2 : p.2 ∈ (ioUpd h' io sp.outs (unL (RM.ks sp.outs) y)).map (·.1) := by rw [u1]; exact hii
        rcases hupd_or newU (hupd (hupd s.h F) (ioUpd h' io sp.outs (unL (RM.ks sp.outs) y))) p.2 with ⟨_, h⟩ | ⟨row, h, _⟩
        rotate_left
        · exact absurd (List.mem_map_of_mem (f := (·.1)) h) hin
        rcases hupd_or (ioUpd h' io sp.outs (unL (RM.ks sp.outs) y)) (hupd s.h F) p.2 with ⟨h3, _⟩ | ⟨row2, h3, h4⟩
        · exact absurd hi2 h3
        rw [h, h4] at hr
        injection hr with hr
        subst hr
        obtain ⟨v1, v2, r, v3, v4, v5⟩ := u2 _ h3
        have v3 := hsubF _ _ v3
        rw [hρ _ hin]
        unfold RowOK
        rcases v5 with ⟨cs, k, x, c1, c2, c3, g, cur, c4, c5, c6⟩ | ⟨k, xs, ys, c1, c3, vals, c4, c5⟩
        · have c3 : row2.b = .cells (flat k x) := c3
          rw [c3]
          have c4 : ρ p.2 = .pointer (some ⟨g, 0, none⟩) := c4
          refine ⟨g, cur, c4, ((IF.rows p.2 r v3).blk_lt (by rw [c4]; rfl)).1, c5, flat_ok _ _ _ c6⟩
        · have c3 : row2.b = .list k ys := c3
          rw [c3]
          have c4 : w'.ownsRow 0 row2.ty k.cells (ρ p.2) ys.length vals := c4
          exact ⟨vals, World.ownsRow.holds' c4 (fun b hb => ((IF.rows p.2 r v3).blk_lt hb).1), c5, fun h => by rw [show row2.wr = true from v1] at h; cases h⟩
  have split3 : ∀ newU : List (Nat × Row), hupd s.h (F ++ (ioUpd h' io sp.outs (unL (RM.ks sp.outs) y) ++ newU)) = hupd (hupd (hupd s.h F) (ioUpd h' io sp.outs (unL (RM.ks sp.outs) y))) newU := fun newU => by rw [hupd_app, hupd_app]
  -- what may be read
  have hread : ∀ (newU : List (Nat × Row)) (ρ' : Nat → Value), (∀ i, i ∉ newU.map (·.1) → ρ' i = ρ i) → (∀ q ∈ newU, ∀ b, blk (ρ' q.1) = some b → b ∈ bs) → farRM sp.outs = true →
      ∀ b, (b < w'.heap.size ∧ (ok b ∨ w.heap.size ≤ b) ∧ b ∉ bs) → Rd C (hupd (hupd (hupd s.h F) (ioUpd h' io sp.outs (unL (RM.ks sp.outs) y))) newU) ρ' w' b := by
    intro newU ρ' hρ hbs hfar b ⟨h1, h3, h4⟩
    have hold : ∀ i r, hupd s.h F i = some r → r.wr = true → blk (ρ i) = some b → False := by
      intro i r hr hw hb
      rcases h3 with h3 | h3
      · have := h3.1
        rw [if_pos hfar] at this
        exact this.2.2 i r hr hw hb
      · have := ((IF.rows i r hr).blk_lt hb).2
        simp only at this
        omega
    refine ⟨h1, ?_, fun i r hr hw he => ?_⟩
    · rcases h3 with h3 | h3
      · have := h3.1
        rw [if_pos hfar] at this
        exact this.2.1
      · exact .inr (.inl (Nat.le_trans IF.fr.size h3))
    · rcases hupd_or newU (hupd (hupd s.h F) (ioUpd h' io sp.outs (unL (RM.ks sp.outs) y))) i with ⟨hn1, h⟩ | ⟨row, h, _⟩
      rotate_left
      · exact h4 (hbs _ h b he)
      rw [hρ i hn1] at he
      rcases hupd_or (ioUpd h' io sp.outs (unL (RM.ks sp.outs) y)) (hupd s.h F) i with ⟨_, h5⟩ | ⟨row, h5, _⟩
      · rw [h, h5] at hr
        exact hold i r hr hw he
      · have u1 := (upd_ok (h0 := h') (ρ := ρ) hIoO hios hrr).1
        have : i ∈ io.map (·.2) := by rw [← u1]; exact List.mem_map_of_mem (f := (·.1)) h5
        obtain ⟨p, hp, rfl⟩ := List.mem_map.1 this
        obtain ⟨r0, h6, h7⟩ := hioRow p hp
        exact hold _ r0 h6 h7 he
  rcases Nat.lt_or_ge 0 (numO sp.outs) with h1 | h0
  · -- one row is handed over
    have hfar := farRM_one _ h1
    obtain ⟨id, ty, k, xs, vals, v2, e1, e2, e3, e4, ⟨j, _, hj, hjd⟩, e5⟩ := res_one (d := d) (h0 := h') (i := 0) (by omega) hrr
    have hj8 : j < 8 := by
      have := ResRel_len hrr
      omega
    have hbl : ∀ b, blk v2 = some b → w.heap.size ≤ b ∧ b ∈ bs := by
      intro b hb
      refine ⟨?_, by rw [e2, hb]; simp⟩
      rcases e3.2 with ⟨he, _⟩ | ⟨g, cap, cur, he, hb2, _⟩
      · rw [he] at hb; simp [blk] at hb
      · rw [he] at hb; simp only [blk, Option.some.injEq] at hb; omega
    have hup : ∀ i, i ∉ [(id, (⟨nver h' id, true, ty, .list k xs⟩ : Row))].map (·.1) → upd ρ id v2 i = ρ i := fun i hi => upd_other _ _ (by simpa using hi)
    obtain ⟨I2, rr2⟩ := step [(id, ⟨nver h' id, true, ty, .list k xs⟩)] (upd ρ id v2) e1 hup (fun q hq => by
        simp only [List.mem_singleton] at hq
        subst hq
        exact ⟨j, hj8, hjd⟩) (fun q hq => by
        simp only [List.mem_singleton] at hq
        subst hq
        refine ⟨rfl, fun b hb => hbl b ?_⟩
        rwa [upd_same] at hb) (fun q hq q' hq' => by
        simp only [List.mem_singleton] at hq hq'
        rw [hq, hq']) (.inl (hread _ _ hup (fun q hq b hb => by
        simp only [List.mem_singleton] at hq
        subst hq
        rw [upd_same] at hb
        exact (hbl b hb).2) hfar)) (fun q hq row hr => by
        simp only [List.mem_singleton] at hq
        subst hq
        have hr : upd (hupd (hupd s.h F) (ioUpd h' io sp.outs (unL (RM.ks sp.outs) y))) id (some ⟨nver h' id, true, ty, .list k xs⟩) id = some row := hr
        rw [upd_same] at hr ⊢
        injection hr with hr
        subst hr
        refine ⟨vals, World.ownsRow.holds' e3 (fun b hb => .inl (Nat.le_trans IF.fr.size (hbl b hb).1)), RL_imp (fun x c hx => RC_mono (fun b hb => ⟨hread _ _ hup (fun q hq b hb => by
          simp only [List.mem_singleton] at hq
          subst hq
          rw [upd_same] at hb
          exact (hbl b hb).2) hfar b hb, rfl⟩) hx) e4, fun h => by cases h⟩)
    rw [split3, e1]
    refine ⟨resVal vs, upd ρ id v2, rfl, I2, resOf_rel (e5 _ rfl (hread _ _ hup (fun q hq b hb => by
          simp only [List.mem_singleton] at hq
          subst hq
          rw [upd_same] at hb
          exact (hbl b hb).2) hfar) (upd_same _ _ _) (upd_same _ _ _))⟩
  · have hzero : numO sp.outs = 0 := by omega
    have e1 := (res_none (d := d) (h0 := h') (i := 0) hzero hrr).2.1
    obtain ⟨I2, rr2⟩ := step [] ρ e1 (fun i _ => rfl) (fun q hq => by simp at hq) (fun q hq => by simp at hq) (fun q hq => by simp at hq) (by
      by_cases hfar : farRM sp.outs = true
      · exact .inl (hread _ _ (fun i _ => rfl) (fun q hq => by simp at hq) hfar)
      · exact .inr (by simpa using hfar)) (fun q hq => by simp at hq)
    rw [split3, e1]
    exact ⟨resVal vs, ρ, rfl, I2, resOf_rel ((res_none (d := d) (h0 := h') (i := 0) hzero rr2).2.2 _ rfl (fun b hb => hb))⟩
theorem footIds {fop : Operand} {f : Nat} {caps : List AV} (hf : s.ev fop = .fn f caps) {l : List Operand} : ∀ i ∈ AV.idss (l.map s.ev ++ caps), i ∈ (l.flatMap fun x => (s.ev x).ids) ++ (s.ev fop).ids := by
  intro i hi
  simp only [idss_append, List.mem_append] at hi ⊢
  rcases hi with hi | hi
  · left
    induction l with
    | nil => simp [AV.idss] at hi
    | cons q l ih =>
      simp only [List.map_cons, AV.idss, List.mem_append, List.flatMap_cons] at hi ⊢
      exact hi.imp id ih
  · right
    rw [hf]
    simpa [AV.ids] using hi
theorem does_call {outs : List RM} {e : Env outs} (hΓ : ∀ f sp, e.Γ f = some sp → SpecOK P f sp) (hsub : ∀ id row, h' id = some row → s.h id = some row) {fop : Operand} {qs : Array Operand} {ts : Array TypeId}
    (ho : o.op = .call { callee := .value fop, args := qs, argTypes := ts }) {d : Nat} (hdst : o.dst = some d)
    (hfoot : ∀ i, (i ∈ (qs.toList.flatMap fun x => (s.ev x).ids) ++ (s.ev fop).ids ∨ i ∈ inner s.h ((qs.toList.flatMap fun x => (s.ev x).ids) ++ (s.ev fop).ids)) → h' i = s.h i) (hres : ∀ j, j < 8 → h' (1000000 + d * 16 + j) = s.h (1000000 + d * 16 + j))
    (h : (effE e s.ev h' o).sem = some E) : DoesW P C s o E := by
  unfold effE at h
  rw [ho] at h
  simp only at h
  split at h
  rotate_left
  · simp [Dec.sem] at h
  rename_i f caps hf
  rw [hdst] at h
  unfold callE at h
  split at h
  rotate_left
  · simp [Dec.sem] at h
  rename_i sp d' hsp hd'
  injection hd' with hd'
  subst hd'
  split at h
  rotate_left
  · simp [Dec.sem] at h
  rename_i hlen
  obtain ⟨hlen, hnum, hk1, hk2, hdis⟩ := hlen
  split at h
  rotate_left
  · simp [Dec.sem] at h
  rename_i l hl
  split at h
  rotate_left
  · simp [Dec.sem] at h
  rename_i x hx
  cases hy : sp.f x with
  | none =>
    rw [hy] at h
    have h : (none : Option Eff) = some E := h
    cases h
  | some y =>
  rw [hy] at h
  have h := Option.some.inj h
  subst h
  have hspec := hΓ f sp hsp
  have hul := leafs_unL hx
  intro ρ a w I next Q hn
  have hfr : rel (envOf C ρ s.h w) (.fn f caps) (a.eval fop) := hf ▸ I.ev fop
  obtain ⟨c, hc, hcr⟩ := hfr
  -- the operation enters the callee
  have hrun : (execOp a.eval o).run P w = .ok (.enter f (qs.map a.eval ++ c)) w := by
    unfold execOp
    rw [ho]
    simp only [resolve, Sem.run_bind, hc, Deferred.ofValue, Sem.run_pure, Result.andThen_ok, invoke]
    have := run_enter (P := P) (f := f) (args := (#[] ++ qs.map a.eval) ++ c) (w := w) hspec.enters
    simpa using this
  unfold Oper.wp
  rw [hrun, Oper.upon_enter]
  have hargs : rels (envOf C ρ s.h w) (qs.toList.map s.ev ++ caps) ((qs.map a.eval ++ c).toList) := by
    have := rels_append (evs_rel I qs.toList) hcr
    simpa using this
  refine (call_core (d := d) hspec hsub (fun i hi => hfoot i (.inl (footIds hf i hi))) (fun i hi => hfoot i (.inr (inner_sub (footIds hf) hi))) hres hlen hnum hk1 hk2 hdis hl hx hy I hargs).mono fun en w' hh => ?_
  obtain ⟨v, ρ', rfl, I2, hr⟩ := hh
  exact hn v w' ρ' I2 hr
end Go.Proofs.Ytkgjchmfiohciaa.Den
