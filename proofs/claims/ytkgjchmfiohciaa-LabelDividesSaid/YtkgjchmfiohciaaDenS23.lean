/- Functions. -/
import Derived.Test.YtkgjchmfiohciaaDenS22
namespace Go.Proofs.Ytkgjchmfiohciaa.Den
open Go.RowKit
set_option linter.unusedVariables false
set_option linter.unusedSimpArgs false
variable {P : Program} {C : Cx} {outs : List RM} {e : Env outs}
theorem results_run {fn : Func} {a : Act} {w : World} {vs : List Value} {rs : List ResultVar} (hr : fn.results.toList = rs) (h : (rs.mapM (resRun a)).run P w = .ok vs w) :
    (results fn a.tmps).run P w = .ok (resVal vs) w := by
  subst hr
  have hres : results fn a.tmps = (fn.results.mapM (resRun a) >>= fun vs => pure (if h : vs.size = 1 then vs[0] else .tuple vs)) := by
    unfold results
    congr 1
  have hmap : (fn.results.mapM (resRun a)).run P w = .ok vs.toArray w := by
    rw [Array.mapM_eq_mapM_toList]
    simp only [map_eq_pure_bind, Sem.run_bind, h, Result.andThen_ok, Sem.run_pure]
  rw [hres, Sem.run_bind, hmap]
  simp only [Result.andThen_ok, Sem.run_pure]
  congr 1
  match vs with
  | [] => rfl
  | [v] => rfl
  | _ :: _ :: _ => rfl
theorem resE_in {s : St} {O : List Nat} : ∀ (ms : List RM) (rs : List ResultVar) (l : List PV), resE e s O ms rs = some l → ∀ p ∈ ioOuts ms, ∃ id ver r, s.t (5000000 + p.1) = .rw id ver ∧ s.h id = some r ∧ r.wr = true ∧ r.ver = ver ∧ id ∈ inIds s ms
  | [], rs, l, h, p, hp => by simp [ioOuts] at hp
  | .b j ty k :: ms, rs, l, h, p, hp => by
    simp only [resE] at h
    split at h
    · cases h
    · rename_i l' hl'
      simp only [ioOuts] at hp
      rcases List.mem_cons.1 hp with rfl | hp
      · split at h
        · rename_i id ver hrw
          split at h
          · rename_i rv ty' cs hrow
            split at h
            · rename_i hc
              exact ⟨id, ver, _, hrw, hrow, rfl, hc.1, by simp [inIds, hrw, AV.ids]⟩
            · cases h
          · cases h
        · cases h
      · obtain ⟨id, ver, r, h1, h2, h3, h4, h5⟩ := resE_in ms rs l' hl' p hp
        exact ⟨id, ver, r, h1, h2, h3, h4, by simp [inIds, h5]⟩
  | .r j ty k :: ms, rs, l, h, p, hp => by
    simp only [resE] at h
    split at h
    · cases h
    · rename_i l' hl'
      simp only [ioOuts] at hp
      rcases List.mem_cons.1 hp with rfl | hp
      · split at h
        · rename_i id ver hrw
          split at h
          · rename_i rv ty' k' xs hrow
            split at h
            · rename_i hc
              exact ⟨id, ver, _, hrw, hrow, rfl, hc.1, by simp [inIds, hrw, AV.ids]⟩
            · cases h
          · cases h
        · cases h
      · obtain ⟨id, ver, r, h1, h2, h3, h4, h5⟩ := resE_in ms rs l' hl' p hp
        exact ⟨id, ver, r, h1, h2, h3, h4, by simp [inIds, h5]⟩
  | .v k :: ms, [], l, h, p, hp => by simp [resE] at h
  | .c k :: ms, [], l, h, p, hp => by simp [resE] at h
  | .o ty k fl :: ms, [], l, h, p, hp => by simp [resE] at h
  | .v k :: ms, r :: rs, l, h, p, hp => by
    simp only [resE] at h
    split at h
    · cases h
    · rename_i l' hl'
      simpa only [inIds] using resE_in ms rs l' hl' p hp
  | .c k :: ms, r :: rs, l, h, p, hp => by
    simp only [resE] at h
    split at h
    · cases h
    · rename_i l' hl'
      simpa only [inIds] using resE_in ms rs l' hl' p hp
  | .o ty k fl :: ms, r :: rs, l, h, p, hp => by
    simp only [resE] at h
    split at h
    · cases h
    · rename_i l' hl'
      simpa only [inIds] using resE_in ms rs l' hl' p hp
theorem lenG_all {s : St} : ∀ {rs : List ResultVar}, lenG e s rs ≠ some false → ∀ r ∈ rs, lenG1 e s r ≠ some false
  | [], _, r, h => by simp at h
  | r :: rs, h, q, hq => by
    simp only [lenG] at h
    rcases List.mem_cons.1 hq with rfl | hm
    · intro hf
      rw [hf] at h
      cases hx : lenG e s rs with
      | none => rw [hx] at h; exact h rfl
      | some c => rw [hx] at h; exact h rfl
    · refine lenG_all ?_ q hm
      intro hf
      rw [hf] at h
      cases hx : lenG1 e s r with
      | none => rw [hx] at h; exact h rfl
      | some b => rw [hx] at h; exact h (by simp)
theorem fin_split {s : St} {y : Leafs (RM.ks outs)} (h : fin e s = some y) : nodup (outIds e s outs e.res) = true ∧ ∃ l, resE e s (outIds e s outs e.res) outs e.res = some l ∧ leafs (RM.ks outs) l = some y ∧ ∀ r ∈ e.res, lenG1 e s r ≠ some false := by
  unfold fin at h
  split at h
  rotate_left
  · cases h
  rename_i hnd
  split at h
  · rename_i l h1 h2
    exact ⟨hnd, l, h2, h, lenG_all (by rw [h1]; simp)⟩
  · rename_i b l h1 h2
    split at h
    · rename_i hb
      subst hb
      exact ⟨hnd, l, h2, h, lenG_all (by rw [h1]; simp)⟩
    · cases h
  · cases h
theorem fin_ok {fn : Func} (hτ : TauOK P e.τ) (hr : fn.results.toList = e.res) {ios : Nat → Option Value} (hvt : ∀ j, C.vt (5000000 + j) = ios j) (hio : ∀ b, C.io b → iob ios b) (hkeys : ∀ j v, ios j = some v → j ∈ (ioOuts outs).map (·.1)) (hV : IoV ios (ioOuts outs))
    {ρ : Nat → Value} {s : St} {a : Act} {w : World} (I : Inv C ρ s a w) {y : Leafs (RM.ks outs)} (h : fin e s = some y) :
    ∃ v, (results fn a.tmps).run P w = .ok v w ∧ ResR C.w0 w C.ok ios outs (unL (RM.ks outs) y) v := by
  obtain ⟨hnd, l, hl, h, hA⟩ := fin_split h
  · · skip
      rw [leafs_unL h]
      have hnd := nodup_spec hnd
      obtain ⟨s1, s2, s3⟩ := own_sub _ _ _ hl
      -- the rows that were handed in
      have hrow : ∀ b, C.io b → ∃ id ∈ inIds s outs, ∃ r, s.h id = some r ∧ r.wr = true ∧ blk (ρ id) = some b := by
        intro b hb
        obtain ⟨j, v, h1, h2⟩ := hio b hb
        obtain ⟨p, hp, hpj⟩ := List.mem_map.1 (hkeys j v h1)
        obtain ⟨id, ver, r, q1, q2, q3, q4, q5⟩ := resE_in _ _ _ hl p hp
        refine ⟨id, q5, r, q2, q3, ?_⟩
        have htm := I.tm (5000000 + p.1)
        rw [q1] at htm
        obtain ⟨row, e1, e2, e3⟩ := htm
        have e1 : s.h id = some row := e1
        rw [q2] at e1
        injection e1 with e1
        subst e1
        have e3 : C.tv a (5000000 + p.1) = ρ id := e3 q4
        rw [← e3, Cx.tv, hvt, hpj, h1]
        exact h2
      have hsame : ∀ b id r, C.io b → s.h id = some r → blk (ρ id) = some b → id ∈ inIds s outs := by
        intro b id r hb hr hb2
        obtain ⟨id', q1, r', q2, q3, q4⟩ := hrow b hb
        rw [I.inj id id' r r' b hr q2 hb2 q4]
        exact q1
      obtain ⟨vs, bs, h1, h2, h3, h4, h5⟩ := resE_ok hτ I hvt (rd := fun b => b < w.heap.size ∧ (C.ok b ∨ C.w0.heap.size ≤ b) ∧ ∀ i ∈ outIds e s outs e.res, ∀ r, s.h i = some r → r.wr = true → blk (ρ i) ≠ some b)
        (fun b hb => ⟨hb.1, by
          rcases hb.2.1 with h | h | h
          · exact .inl h
          · exact .inr h
          · obtain ⟨id, q1, r, q2, q3, q4⟩ := hrow b h
            exact absurd q4 (hb.2.2 id r q2 q3), fun i hi r hr hw => hb.2.2 i r hr hw⟩)
        (fun id hid r hr b hb => by
          have hlt := (I.rows id r hr).blk_lt hb
          refine ⟨hlt.2, ?_, fun i hi r' hr' hw he => hid (by rw [I.inj id i r r' b hr hr' hb he]; exact hi)⟩
          rcases hlt.1 with h | h
          · exact .inr h
          · exact absurd (s2 id (hsame b id r h hr hb)) hid) _ _ _ hl hA (fun i hi => hi) hV
        (fun id hid r hr b hb => by
          have hlt := (I.rows id r hr).blk_lt hb
          rcases hlt.1 with h | h
          · exact h
          · exact absurd (hsame b id r h hr hb) (s3 hnd id hid))
      refine ⟨resVal vs, results_run hr h1, vs, bs, rfl, h5 hnd, ResRel_mono (fun b hb => ⟨hb.1, hb.2.1, fun hm => ?_⟩) h2⟩
      obtain ⟨i, hi, ⟨r, hr, hw⟩, hb2⟩ := h4 b hm
      exact hb.2.2 i hi r hr hw hb2
/-- The state in which a function begins. -/
def argT : Nat → List IM → List PV → Nat → AV
  | _, [], _ => fun _ => .u
  | i, .v _ :: is, p :: l => upd (argT (i + 1) is l) i (.p p.k p.v)
  | i, .pl _ :: is, p :: l => upd (argT (i + 1) is l) i (.fe p.k p.v)
  | i, .f g ks :: is, l => upd (argT (i + 1) is (capsT ks l).2) i (.fn g (capsT ks l).1)
  | i, .b j _ _ :: is, _ :: l => upd (argT (i + 1) is l) i (.ad (3000000 + j) 0 0)
  | i, .r j _ _ fl :: is, _ :: l => upd (argT (i + 1) is l) i (.slw (3000000 + j) 0 fl)
  | i, .s j _ _ :: is, _ :: u :: v :: l => upd (argT (i + 1) is l) i (.sl (3000000 + j) 0 (toNatPV u) (toNatPV v))
  | _, _, _ => fun _ => .u
def argV : List (Nat × Bool × Nat × K) → (Nat → AV) → (Nat → AV)
  | [], t => t
  | p :: l, t => upd (argV l t) (5000000 + p.1) (.rw (3000000 + p.1) 0)
def capH : List CM → List PV → (Nat → Option Row) → (Nat → Option Row)
  | .ro _ :: ks, _ :: l, h => capH ks l h
  | .io j ty _ :: ks, p :: l, h => upd (capH ks l h) (3000000 + j) (some ⟨0, true, ty, .cells (flat p.k p.v)⟩)
  | _, _, h => h
def argH : List IM → List PV → Nat → Option Row
  | [], _ => fun _ => none
  | .f _ ks :: is, l => capH ks l (argH is (capsT ks l).2)
  | .b j ty _ :: is, p :: l => upd (argH is l) (3000000 + j) (some ⟨0, true, ty, .cells (flat p.k p.v)⟩)
  | .r j ty _ _ :: is, ⟨.slice k, xs⟩ :: l => upd (argH is l) (3000000 + j) (some ⟨0, true, ty, .list k xs⟩)
  | .s j ty _ :: is, ⟨.slice k, xs⟩ :: _ :: _ :: l => upd (argH is l) (3000000 + j) (some ⟨0, true, ty, .list k xs⟩)
  | _ :: is, _ :: l => argH is l
  | _, _ => fun _ => none
def init (ins : List IM) (x : Leafs (IM.ks ins)) : St := ⟨argV (ioIns ins) (argT 0 ins (unL (IM.ks ins) x)), argH ins (unL (IM.ks ins) x)⟩
/-- A row that is handed in. -/
def RowIn (w : World) (ok : Nat → Prop) (row : Row) (v : Value) : Prop :=
  row.ver = 0 ∧ row.wr = true ∧ ((∃ k x, row.b = .cells (flat k x) ∧ BoxR w ok row.ty k x v) ∨ (∃ k xs, row.b = .list k xs ∧ ListR w ok row.ty k xs v))
theorem capH_ok {w : World} {ok : Nat → Prop} {ios : Nat → Option Value} : ∀ {ks : List CM} {l : List PV} {c : List Value} {h : Nat → Option Row}, CapR w ok ios ks l c → ∀ id row, capH ks l h id = some row →
    h id = some row ∨ ∃ p ∈ capIo ks, id = 3000000 + p.1 ∧ ∃ v, ios p.1 = some v ∧ RowIn w ok row v
  | [], l, c, h, hc, id, row, hr => by cases l <;> exact .inl hr
  | .ro k :: ks, p :: l, c, h, hc, id, row, hr => by
    obtain ⟨u, c', rfl, h1, h2⟩ := hc
    exact capH_ok (ks := ks) h2 id row hr
  | .io j ty k :: ks, p :: l, c, h, hc, id, row, hr => by
    obtain ⟨u, c', rfl, h1, hk, h2, h3⟩ := hc
    simp only [capH] at hr
    by_cases e : id = 3000000 + j
    · subst e
      rw [upd_same] at hr
      injection hr with hr
      subst hr
      exact .inr ⟨(j, true, ty, k), by simp [capIo], rfl, u, h1, rfl, rfl, .inl ⟨p.k, p.v, rfl, h2⟩⟩
    · rw [upd_other _ _ e] at hr
      rcases capH_ok h3 id row hr with h | ⟨q, hq, hx⟩
      · exact .inl h
      · exact .inr ⟨q, List.mem_cons_of_mem _ hq, hx⟩
  | .ro k :: ks, [], c, h, hc, id, row, hr => hc.elim
  | .io j ty k :: ks, [], c, h, hc, id, row, hr => hc.elim
theorem argH_ok {w : World} {ok : Nat → Prop} {ios : Nat → Option Value} : ∀ {is : List IM} {l : List PV} {vs : List Value}, PVs w ok ios is l vs → ∀ id row, argH is l id = some row →
    ∃ p ∈ ioIns is, id = 3000000 + p.1 ∧ ∃ v, ios p.1 = some v ∧ RowIn w ok row v := by
  intro is
  induction is with
  | nil => intro l vs h id row hr; simp [argH] at hr
  | cons m is ih =>
    intro l vs h id row hr
    cases m with
    | v k => cases l with
      | nil => exact absurd h (by simp [PVs])
      | cons p l => obtain ⟨v, vs', rfl, _, h2⟩ := h; exact ih h2 id row hr
    | pl k => cases l with
      | nil => exact absurd h (by simp [PVs])
      | cons p l => obtain ⟨v, vs', rfl, _, h2⟩ := h; exact ih h2 id row hr
    | f g ks =>
      obtain ⟨c, vs', rfl, h1, h2⟩ := h
      simp only [argH] at hr
      rcases capH_ok h1 id row hr with hr | ⟨p, hp, hx⟩
      · obtain ⟨p, hp, hx⟩ := ih h2 id row hr
        exact ⟨p, List.mem_append_right _ hp, hx⟩
      · exact ⟨p, List.mem_append_left _ hp, hx⟩
    | b j ty k => cases l with
      | nil => exact absurd h (by simp [PVs])
      | cons p l =>
        obtain ⟨v, vs', rfl, h1, hk, h2, h3⟩ := h
        simp only [argH] at hr
        by_cases e : id = 3000000 + j
        · subst e
          rw [upd_same] at hr
          injection hr with hr
          subst hr
          exact ⟨(j, true, ty, k), by simp [ioIns], rfl, v, h1, rfl, rfl, .inl ⟨p.k, p.v, rfl, h2⟩⟩
        · rw [upd_other _ _ e] at hr
          obtain ⟨q, hq, hx⟩ := ih h3 id row hr
          exact ⟨q, List.mem_cons_of_mem _ hq, hx⟩
    | r j ty k fl => cases l with
      | nil => exact absurd h (by simp [PVs])
      | cons p l =>
        obtain ⟨pk, pv⟩ := p
        cases pk with
        | slice k' =>
          obtain ⟨v, vs', rfl, h1, hk, hfl, h2, h3⟩ := h
          simp only [argH] at hr
          by_cases e : id = 3000000 + j
          · subst e
            rw [upd_same] at hr
            injection hr with hr
            subst hr
            exact ⟨(j, false, ty, k), by simp [ioIns], rfl, v, h1, rfl, rfl, .inr ⟨k', pv, rfl, h2⟩⟩
          · rw [upd_other _ _ e] at hr
            obtain ⟨q, hq, hx⟩ := ih h3 id row hr
            exact ⟨q, List.mem_cons_of_mem _ hq, hx⟩
        | _ => exact absurd h (by simp [PVs])
    | s j ty k =>
      match l, h, hr with
      | ⟨.slice k', xs⟩ :: ⟨.int .i64, off⟩ :: ⟨.int .i64, len⟩ :: l, h, hr =>
        obtain ⟨v, vr, vs', rfl, h1, hk, hsl, h2, hp, h3⟩ := h
        simp only [argH] at hr
        by_cases e : id = 3000000 + j
        · subst e
          rw [upd_same] at hr
          injection hr with hr
          subst hr
          exact ⟨(j, false, ty, k), by simp [ioIns], rfl, vr, h1, rfl, rfl, .inr ⟨k', xs, rfl, h2⟩⟩
        · rw [upd_other _ _ e] at hr
          obtain ⟨q, hq, hx⟩ := ih h3 id row hr
          exact ⟨q, List.mem_cons_of_mem _ hq, hx⟩
theorem ListR_sl {w : World} {rd : Nat → Prop} {ty : Nat} {k : K} {xs : List (T k)} {v : Value} (h : ListR w rd ty k xs v) : isSl v := by
  obtain ⟨A, c, rfl⟩ := ListR_len h; trivial
theorem cap_IoV {w : World} {ok : Nat → Prop} {ios : Nat → Option Value} : ∀ {ks : List CM} {l : List PV} {c : List Value}, CapR w ok ios ks l c → IoV ios (capIo ks)
  | [], l, c, h => fun p hp => by simp [capIo] at hp
  | .ro k :: ks, p :: l, c, h => by obtain ⟨u, c', rfl, h1, h2⟩ := h; exact cap_IoV (ks := ks) h2
  | .io j ty k :: ks, p :: l, c, h => by
    obtain ⟨u, c', rfl, h1, hk, h2, h3⟩ := h
    intro q hq
    rcases List.mem_cons.1 hq with rfl | hq
    · exact ⟨u, h1, fun h => by cases h⟩
    · exact cap_IoV h3 q hq
  | .ro k :: ks, [], c, h => h.elim
  | .io j ty k :: ks, [], c, h => h.elim
theorem PVs_IoV {w : World} {ok : Nat → Prop} {ios : Nat → Option Value} : ∀ {is : List IM} {l : List PV} {vs : List Value}, PVs w ok ios is l vs → IoV ios (ioIns is) := by
  intro is
  induction is with
  | nil => intro l vs h p hp; simp [ioIns] at hp
  | cons m is ih =>
    intro l vs h
    cases m with
    | v k => cases l with
      | nil => exact absurd h (by simp [PVs])
      | cons p l => obtain ⟨v, vs', rfl, _, h2⟩ := h; exact ih h2
    | pl k => cases l with
      | nil => exact absurd h (by simp [PVs])
      | cons p l => obtain ⟨v, vs', rfl, _, h2⟩ := h; exact ih h2
    | f g ks =>
      obtain ⟨c, vs', rfl, h1, h2⟩ := h
      intro q hq
      rcases List.mem_append.1 hq with hq | hq
      · exact cap_IoV h1 q hq
      · exact ih h2 q hq
    | b j ty k => cases l with
      | nil => exact absurd h (by simp [PVs])
      | cons p l =>
        obtain ⟨v, vs', rfl, h1, hk, h2, h3⟩ := h
        intro q hq
        rcases List.mem_cons.1 hq with rfl | hq
        · exact ⟨v, h1, fun h => by cases h⟩
        · exact ih h3 q hq
    | r j ty k fl => cases l with
      | nil => exact absurd h (by simp [PVs])
      | cons p l =>
        obtain ⟨pk, pv⟩ := p
        cases pk with
        | slice k' =>
          obtain ⟨v, vs', rfl, h1, hk, hfl, h2, h3⟩ := h
          intro q hq
          rcases List.mem_cons.1 hq with rfl | hq
          · exact ⟨v, h1, fun _ => ListR_sl h2⟩
          · exact ih h3 q hq
        | _ => exact absurd h (by simp [PVs])
    | s j ty k =>
      match l, h with
      | ⟨.slice k', xs⟩ :: ⟨.int .i64, off⟩ :: ⟨.int .i64, len⟩ :: l, h =>
        obtain ⟨v, vr, vs', rfl, h1, hk, hsl, h2, hp, h3⟩ := h
        intro q hq
        rcases List.mem_cons.1 hq with rfl | hq
        · exact ⟨vr, h1, fun _ => hsl⟩
        · exact ih h3 q hq
theorem PVs_len {w : World} {ok : Nat → Prop} {ios : Nat → Option Value} : ∀ {is : List IM} {l : List PV} {vs : List Value}, PVs w ok ios is l vs → vs.length = is.length := by
  intro is
  induction is with
  | nil => intro l vs h; rw [h.2]; rfl
  | cons m is ih =>
    intro l vs h
    cases m with
    | v k => cases l with
      | nil => exact absurd h (by simp [PVs])
      | cons p l => obtain ⟨v, vs', rfl, _, h2⟩ := h; simp [ih h2]
    | pl k => cases l with
      | nil => exact absurd h (by simp [PVs])
      | cons p l => obtain ⟨v, vs', rfl, _, h2⟩ := h; simp [ih h2]
    | f g ks => obtain ⟨c, vs', rfl, _, h2⟩ := h; simp [ih h2]
    | b j ty k => cases l with
      | nil => exact absurd h (by simp [PVs])
      | cons p l => obtain ⟨v, vs', rfl, _, _, _, h2⟩ := h; simp [ih h2]
    | r j ty k fl => cases l with
      | nil => exact absurd h (by simp [PVs])
      | cons p l =>
        obtain ⟨pk, pv⟩ := p
        cases pk with
        | slice k' => obtain ⟨v, vs', rfl, _, _, _, _, h2⟩ := h; simp [ih h2]
        | _ => exact absurd h (by simp [PVs])
    | s j ty k =>
      match l, h with
      | ⟨.slice k', xs⟩ :: ⟨.int .i64, off⟩ :: ⟨.int .i64, len⟩ :: l, h =>
        obtain ⟨v, vr, vs', rfl, h1, hk, hsl, h2, hp, h3⟩ := h
        simp [ih h3]
/-- The rows of some of what is handed in are rows of all of it. -/
def Sub (h h' : Nat → Option Row) : Prop := ∀ id row, h id = some row → h' id = some row
theorem capH_sub : ∀ {ks : List CM} {l : List PV} {h h' : Nat → Option Row}, (∀ q ∈ capIo ks, h (3000000 + q.1) = none) → ((capIo ks).map (·.1)).Nodup → Sub (capH ks l h) h' → Sub h h'
  | [], l, h, h', hn, hd, hs => by cases l <;> exact hs
  | .ro k :: ks, [], h, h', hn, hd, hs => hs
  | .io j ty k :: ks, [], h, h', hn, hd, hs => hs
  | .ro k :: ks, p :: l, h, h', hn, hd, hs => capH_sub (ks := ks) hn hd hs
  | .io j ty k :: ks, p :: l, h, h', hn, hd, hs => by
    simp only [capIo, List.map_cons, List.nodup_cons] at hd
    refine capH_sub (ks := ks) (l := l) (fun q hq => hn q (List.mem_cons_of_mem _ hq)) hd.2 fun id row hr => hs id row ?_
    simp only [capH]
    by_cases e : id = 3000000 + j
    · subst e
      have : ∀ {ks : List CM} {l : List PV}, j ∉ (capIo ks).map (·.1) → capH ks l h (3000000 + j) = h (3000000 + j) := by
        intro ks
        induction ks with
        | nil => intro l _; cases l <;> rfl
        | cons c ks ih =>
          intro l hj
          cases l with
          | nil => cases c <;> rfl
          | cons p l =>
            cases c with
            | ro k => exact ih hj
            | io j' ty k =>
              simp only [capIo, List.map_cons, List.mem_cons, not_or] at hj
              simp only [capH]
              rw [upd_other _ _ (by omega)]
              exact ih hj.2
      rw [this hd.1, hn (j, true, ty, k) (by simp [capIo])] at hr
      cases hr
    · rw [upd_other _ _ e]; exact hr
theorem caps_rel {E : RE} {w : World} {ok : Nat → Prop} {ios : Nat → Option Value} (hw : E.w = w) (hok : ∀ b, ok b → E.rd b) (hρ : ∀ j v, ios j = some v → E.ρ (3000000 + j) = v) : ∀ {ks : List CM} {l : List PV} {c : List Value} {h : Nat → Option Row}, CapR w ok ios ks l c → ((capIo ks).map (·.1)).Nodup → Sub (capH ks l h) E.h → rels E (capsT ks l).1 c
  | [], l, c, h, hc, hd, hs => hc
  | .ro k :: ks, p :: l, c, h, hc, hd, hs => by
    obtain ⟨u, c', rfl, h1, h2⟩ := hc
    subst hw
    exact ⟨u, c', rfl, FE_mono (fun b hb => ⟨hok b hb, rfl⟩) h1, caps_rel rfl hok hρ (ks := ks) h2 hd hs⟩
  | .io j ty k :: ks, p :: l, c, h, hc, hd, hs => by
    obtain ⟨u, c', rfl, h1, hk, ⟨g, cur, h2, h3, h4⟩, h5⟩ := hc
    have hrow := hs (3000000 + j) _ (by simp only [capH]; rw [upd_same])
    simp only [capIo, List.map_cons, List.nodup_cons] at hd
    refine ⟨u, c', rfl, ⟨⟨g, 0, h2⟩, _, hrow, Nat.le_refl _, fun _ => ⟨g, by rw [hρ j u h1]; exact h2, h2⟩⟩, caps_rel hw hok hρ (ks := ks) (h := fun _ => none) h5 hd.2 fun id row hr => ?_⟩
    -- the others' rows
    have key : ∀ {ks : List CM} {l : List PV} {id : Nat} {row : Row}, capH ks l (fun _ => none) id = some row → (∃ q ∈ capIo ks, id = 3000000 + q.1) ∧ capH ks l h id = some row := by
      intro ks
      induction ks with
      | nil => intro l id row hr; cases l <;> simp [capH] at hr
      | cons c ks ih =>
        intro l id row hr
        cases l with
        | nil => cases c <;> simp [capH] at hr
        | cons p l =>
          cases c with
          | ro k => exact ih hr
          | io j' ty' k' =>
            simp only [capH] at hr ⊢
            by_cases e : id = 3000000 + j'
            · subst e
              rw [upd_same] at hr ⊢
              exact ⟨⟨(j', true, ty', k'), by simp [capIo], rfl⟩, hr⟩
            · rw [upd_other _ _ e] at hr ⊢
              obtain ⟨⟨q, hq, hx⟩, h2⟩ := ih hr
              exact ⟨⟨q, List.mem_cons_of_mem _ hq, hx⟩, h2⟩
    obtain ⟨⟨q, hq, hx⟩, h6⟩ := key hr
    refine hs id row ?_
    simp only [capH]
    rw [upd_other _ _ (fun e => hd.1 (List.mem_map.2 ⟨q, hq, by omega⟩))]
    exact h6
  | .ro k :: ks, [], c, h, hc, hd, hs => hc.elim
  | .io j ty k :: ks, [], c, h, hc, hd, hs => hc.elim
theorem argT_rel {E : RE} {w : World} {ok : Nat → Prop} {ios : Nat → Option Value} (hw : E.w = w) (hok : ∀ b, ok b → E.rd b) (hρ : ∀ j v, ios j = some v → E.ρ (3000000 + j) = v) : ∀ {is : List IM} {l : List PV} {vs : List Value} {i : Nat} (t : Array Value), PVs w ok ios is l vs → ((ioIns is).map (·.1)).Nodup → Sub (argH is l) E.h → (∀ j v, vs[j]? = some v → t.getD (i + j) undef = v) → ∀ n, rel E (argT i is l n) (t.getD n undef) := by
  intro is
  induction is with
  | nil => intro l vs i t h hd hs ht n; simp [argT, rel]
  | cons m is ih =>
    intro l vs i t h hd hs ht n
    have step : ∀ {v : Value} {vs' : List Value} {l' : List PV} {av : AV}, vs = v :: vs' → rel E av v → PVs w ok ios is l' vs' → ((ioIns is).map (·.1)).Nodup → Sub (argH is l') E.h → rel E (upd (argT (i + 1) is l') i av n) (t.getD n undef) := by
      intro v vs' l' av e h1 h2 hd' hs'
      subst e
      by_cases hn : n = i
      · subst hn
        have := ht 0 v rfl
        rw [Nat.add_zero] at this
        rw [upd_same, this]
        exact h1
      · rw [upd_other _ _ hn]
        exact ih (i := i + 1) t h2 hd' hs' (fun j u hj => by
          rw [show i + 1 + j = i + (j + 1) by omega]; exact ht (j + 1) u (by simpa using hj)) n
    have tail : ∀ {j : Nat} {l' : List PV} {row : Row} {vs' : List Value}, PVs w ok ios is l' vs' → j ∉ (ioIns is).map (·.1) → Sub (upd (argH is l') (3000000 + j) (some row)) E.h → Sub (argH is l') E.h ∧ E.h (3000000 + j) = some row := by
      intro j l' row vs' hp hj hs'
      refine ⟨fun id row' hr => hs' id row' ?_, hs' _ _ (upd_same _ _ _)⟩
      obtain ⟨q, hq, hx, _⟩ := argH_ok hp id row' hr
      rw [upd_other _ _ (fun e => hj (List.mem_map.2 ⟨q, hq, by omega⟩))]
      exact hr
    cases m with
    | v k => cases l with
      | nil => exact absurd h (by simp [PVs])
      | cons p l =>
        obtain ⟨v, vs', e, h1, h2⟩ := h
        subst hw
        exact step e (VR_mono (fun b hb => ⟨hok b hb, rfl⟩) h1) h2 hd hs
    | pl k => cases l with
      | nil => exact absurd h (by simp [PVs])
      | cons p l =>
        obtain ⟨v, vs', e, h1, h2⟩ := h
        subst hw
        exact step e (FE_mono (fun b hb => ⟨hok b hb, rfl⟩) h1) h2 hd hs
    | f g ks =>
      obtain ⟨c, vs', e, h1, h2⟩ := h
      simp only [ioIns, List.map_append] at hd
      obtain ⟨d1, d2, d3⟩ := List.nodup_append.1 hd
      have hnone : ∀ q ∈ capIo ks, argH is (capsT ks l).2 (3000000 + q.1) = none := by
        intro q hq
        cases hh : argH is (capsT ks l).2 (3000000 + q.1) with
        | none => rfl
        | some row =>
          obtain ⟨q', hq', hx, _⟩ := argH_ok h2 _ _ hh
          exact absurd (show q.1 = q'.1 by omega) (d3 _ (List.mem_map_of_mem (f := (·.1)) hq) _ (List.mem_map_of_mem (f := (·.1)) hq'))
      exact step (av := .fn g (capsT ks l).1) e ⟨c, rfl, caps_rel hw hok hρ h1 d1 hs⟩ h2 d2 (capH_sub hnone d1 hs)
    | b j ty k => cases l with
      | nil => exact absurd h (by simp [PVs])
      | cons p l =>
        obtain ⟨v, vs', e, h1, hk, ⟨g, cur, h2, h3, h4⟩, h5⟩ := h
        simp only [ioIns, List.map_cons, List.nodup_cons] at hd
        obtain ⟨hs', hrow⟩ := tail h5 hd.1 hs
        exact step e ⟨⟨g, 0, h2⟩, _, hrow, Nat.le_refl _, fun _ => ⟨g, by rw [hρ j v h1]; exact h2, h2⟩⟩ h5 hd.2 hs'
    | r j ty k fl => cases l with
      | nil => exact absurd h (by simp [PVs])
      | cons p l =>
        obtain ⟨pk, pv⟩ := p
        cases pk with
        | slice k' =>
          obtain ⟨v, vs', e, h1, hk, hfl, h2, h5⟩ := h
          simp only [ioIns, List.map_cons, List.nodup_cons] at hd
          obtain ⟨hs', hrow⟩ := tail h5 hd.1 hs
          exact step e ⟨hfl, _, hrow, Nat.le_refl _, fun _ => ⟨trivial, (hρ j v h1).symm⟩⟩ h5 hd.2 hs'
        | _ => exact absurd h (by simp [PVs])
    | s j ty k =>
      match l, h, hs with
      | ⟨.slice k', xs⟩ :: ⟨.int .i64, off⟩ :: ⟨.int .i64, len⟩ :: l, h, hs =>
        obtain ⟨v, vr, vs', e, h1, hk, hsl, h2, ⟨hp1, A, cap, hp2, hp3, hp4, hp5, hp6⟩, h5⟩ := h
        simp only [ioIns, List.map_cons, List.nodup_cons] at hd
        obtain ⟨hs', hrow⟩ := tail h5 hd.1 hs
        have hρ' := hρ j vr h1
        exact step e ⟨hp1, _, hrow, Nat.le_refl _, fun _ => ⟨by rw [hρ']; exact hsl, k', xs, A, cap, rfl, hp2, hp3, hp4, by rw [hρ']; exact hp5, by rw [hρ']; exact hp6⟩⟩ h5 hd.2 hs'
theorem argT_u : ∀ {is : List IM} {l : List PV} {i n : Nat}, i + is.length ≤ n → argT i is l n = .u := by
  intro is
  induction is with
  | nil => intro l i n h; rfl
  | cons m is ih =>
    intro l i n h
    simp only [List.length_cons] at h
    have hne : n ≠ i := by omega
    cases m with
    | f g ks => simp only [argT]; rw [upd_other _ _ hne]; exact ih (by omega)
    | s j ty k =>
      match l with
      | [] => rfl
      | [_] => rfl
      | [_, _] => rfl
      | _ :: _ :: _ :: l => simp only [argT]; rw [upd_other _ _ hne]; exact ih (by omega)
    | _ =>
      cases l with
      | nil => rfl
      | cons p l => simp only [argT]; rw [upd_other _ _ hne]; exact ih (by omega)
theorem argV_at : ∀ {L : List (Nat × Bool × Nat × K)} {t : Nat → AV} {n : Nat}, (∃ p ∈ L, n = 5000000 + p.1 ∧ argV L t n = .rw (3000000 + p.1) 0) ∨ ((∀ p ∈ L, n ≠ 5000000 + p.1) ∧ argV L t n = t n)
  | [], t, n => .inr ⟨fun p hp => by simp at hp, rfl⟩
  | p :: L, t, n => by
    simp only [argV]
    by_cases e : n = 5000000 + p.1
    · left
      exact ⟨p, by simp, e, by rw [e, upd_same]⟩
    · rw [upd_other _ _ e]
      rcases argV_at (L := L) (t := t) (n := n) with ⟨q, hq, hx⟩ | ⟨h1, h2⟩
      · exact .inl ⟨q, List.mem_cons_of_mem _ hq, hx⟩
      · exact .inr ⟨fun q hq => by rcases List.mem_cons.1 hq with rfl | hq; exact e; exact h1 q hq, h2⟩
theorem capH_has {w : World} {ok : Nat → Prop} {ios : Nat → Option Value} : ∀ {ks : List CM} {l : List PV} {c : List Value} {h : Nat → Option Row} {j : Nat}, CapR w ok ios ks l c → (j ∈ (capIo ks).map (·.1) ∨ (h (3000000 + j)).isSome = true) → (capH ks l h (3000000 + j)).isSome = true
  | [], l, c, h, j, hc, hj => by
    rcases hj with hj | hj
    · simp [capIo] at hj
    · cases l <;> exact hj
  | .ro k :: ks, p :: l, c, h, j, hc, hj => by
    obtain ⟨u, c', rfl, h1, h2⟩ := hc
    exact capH_has (ks := ks) h2 hj
  | .io j' ty k :: ks, p :: l, c, h, j, hc, hj => by
    obtain ⟨u, c', rfl, h1, hk, h2, h3⟩ := hc
    simp only [capH]
    by_cases e : j = j'
    · subst e; rw [upd_same]; rfl
    · rw [upd_other _ _ (by omega)]
      refine capH_has h3 (hj.imp (fun hj => ?_) (fun h => h))
      simp only [capIo, List.map_cons, List.mem_cons] at hj
      exact hj.resolve_left e
  | .ro k :: ks, [], c, h, j, hc, hj => hc.elim
  | .io j' ty k :: ks, [], c, h, j, hc, hj => hc.elim
theorem argH_has {w : World} {ok : Nat → Prop} {ios : Nat → Option Value} : ∀ {is : List IM} {l : List PV} {vs : List Value} {j : Nat}, PVs w ok ios is l vs → j ∈ (ioIns is).map (·.1) → (argH is l (3000000 + j)).isSome = true := by
  intro is
  induction is with
  | nil => intro l vs j h hj; simp [ioIns] at hj
  | cons m is ih =>
    intro l vs j h hj
    have one : ∀ {j' : Nat} {h0 : Nat → Option Row} {row : Row}, (j = j' ∨ (h0 (3000000 + j)).isSome = true) → ((upd h0 (3000000 + j') (some row)) (3000000 + j)).isSome = true := by
      intro j' h0 row hh
      by_cases e : j = j'
      · subst e; rw [upd_same]; rfl
      · rw [upd_other _ _ (by omega)]; exact hh.resolve_left e
    cases m with
    | v k => cases l with
      | nil => exact absurd h (by simp [PVs])
      | cons p l => obtain ⟨v, vs', rfl, _, h2⟩ := h; exact ih h2 hj
    | pl k => cases l with
      | nil => exact absurd h (by simp [PVs])
      | cons p l => obtain ⟨v, vs', rfl, _, h2⟩ := h; exact ih h2 hj
    | f g ks =>
      obtain ⟨c, vs', rfl, h1, h2⟩ := h
      simp only [ioIns, List.map_append, List.mem_append] at hj
      exact capH_has h1 (hj.imp (fun h => h) fun hj => ih h2 hj)
    | b j' ty k => cases l with
      | nil => exact absurd h (by simp [PVs])
      | cons p l =>
        obtain ⟨v, vs', rfl, h1, hk, h2, h3⟩ := h
        simp only [ioIns, List.map_cons, List.mem_cons] at hj
        exact one (hj.imp (fun h => h) fun hj => ih h3 hj)
    | r j' ty k fl => cases l with
      | nil => exact absurd h (by simp [PVs])
      | cons p l =>
        obtain ⟨pk, pv⟩ := p
        cases pk with
        | slice k' =>
          obtain ⟨v, vs', rfl, h1, hk, hfl, h2, h3⟩ := h
          simp only [ioIns, List.map_cons, List.mem_cons] at hj
          exact one (hj.imp (fun h => h) fun hj => ih h3 hj)
        | _ => exact absurd h (by simp [PVs])
    | s j' ty k =>
      match l, h with
      | ⟨.slice k', xs⟩ :: ⟨.int .i64, off⟩ :: ⟨.int .i64, len⟩ :: l, h =>
        obtain ⟨v, vr, vs', rfl, h1, hk, hsl, h2, hp, h3⟩ := h
        simp only [ioIns, List.map_cons, List.mem_cons] at hj
        exact one (hj.imp (fun h => h) fun hj => ih h3 hj)
def rho0 (ios : Nat → Option Value) : Nat → Value := fun i => if 3000000 ≤ i then (ios (i - 3000000)).getD undef else undef
/-- The call of a function. -/
def cxOf (w : World) (ok : Nat → Prop) (ios : Nat → Option Value) (n : Nat) (hn : n ≤ 5000000) : Cx where
  w0 := w
  ok := ok
  io := iob ios
  n := n
  vt := fun i => if i < 5000000 then none else ios (i - 5000000)
  hn := hn
  hvt := fun i hi => if_pos hi
theorem init_ok {ins : List IM} {x : Leafs (IM.ks ins)} {w : World} {ok : Nat → Prop} {ios : Nat → Option Value} (hok : ∀ b, ok b → b < w.heap.size) (hkeys : ∀ j v, ios j = some v → j ∈ (ioIns ins).map (·.1)) (hib : ∀ b, iob ios b → b < w.heap.size ∧ ¬ ok b)
    (hinj : ∀ i j u v b, ios i = some u → ios j = some v → blk u = some b → blk v = some b → i = j) (hd : ((ioIns ins).map (·.1)).Nodup)
    {args : Array Value} {n : Nat} (hn5 : n ≤ 5000000) (hn : ins.length ≤ n) (h : PVs w ok ios ins (unL (IM.ks ins) x) args.toList) :
    Inv (cxOf w ok ios n hn5) (rho0 ios) (init ins x) { tmps := args ++ Array.replicate (n - args.size) undef, defers := [] } w := by
  have hlen : args.size = ins.length := by
    have := PVs_len h
    simpa using this
  have hρ : ∀ j v, ios j = some v → (rho0 ios) (3000000 + j) = v := by
    intro j v hj
    simp [rho0, hj]
  have hrow := argH_ok h
  have hrd : ∀ b, ok b → Rd (cxOf w ok ios n hn5) (argH ins (unL (IM.ks ins) x)) (rho0 ios) w b := by
    intro b hb
    refine ⟨hok b hb, .inl hb, fun id row hr hw he => ?_⟩
    obtain ⟨p, hp, rfl, v, hv, _⟩ := hrow id row hr
    rw [hρ p.1 v hv] at he
    exact (hib b ⟨p.1, v, hv, he⟩).2 hb
  refine ⟨rfl, by simp [cxOf]; omega, BelowX.refl _ _ _, fun id row hr => ?_, fun id id' r r' b hr hr' hb hb' => ?_, fun i => ?_⟩
  · obtain ⟨p, hp, rfl, v, hv, hv0, hw, hx⟩ := hrow id row hr
    rw [hρ p.1 v hv]
    unfold RowOK
    rcases hx with ⟨k, x, e, g, cur, h1, h2, h3⟩ | ⟨k, xs, e, vals, h1, h2⟩
    · rw [e]
      exact ⟨g, cur, h1, .inr ⟨p.1, v, hv, by rw [h1]; rfl⟩, h2, flat_ok _ _ _ (RC_mono (fun b hb => ⟨hrd b hb, rfl⟩) h3)⟩
    · rw [e]
      exact ⟨vals, World.ownsRow.holds' h1 (fun b hb => .inr ⟨p.1, v, hv, hb⟩), RL_imp (fun x c hx => RC_mono (fun b hb => ⟨hrd b hb, rfl⟩) hx) h2, fun h => by rw [hw] at h; cases h⟩
  · obtain ⟨p, hp, rfl, v, hv, _⟩ := hrow id r hr
    obtain ⟨q, hq, rfl, u, hu, _⟩ := hrow id' r' hr'
    rw [hρ p.1 v hv] at hb
    rw [hρ q.1 u hu] at hb'
    rw [hinj p.1 q.1 v u b hv hu hb hb']
  · rcases argV_at (L := ioIns ins) (t := argT 0 ins (unL (IM.ks ins) x)) (n := i) with ⟨p, hp, rfl, he⟩ | ⟨h1, h2⟩
    · show rel _ (argV _ _ _) _
      rw [he]
      obtain ⟨v, hv, _⟩ := PVs_IoV h p hp
      obtain ⟨row, hr⟩ := Option.isSome_iff_exists.1 (argH_has h (List.mem_map_of_mem (f := (·.1)) hp))
      refine ⟨row, hr, Nat.zero_le _, fun _ => ?_⟩
      show Cx.tv _ _ _ = rho0 ios _
      rw [hρ p.1 v hv]
      have hvt : (cxOf w ok ios n hn5).vt (5000000 + p.1) = some v := by
        show (if 5000000 + p.1 < 5000000 then none else ios (5000000 + p.1 - 5000000)) = _
        rw [if_neg (by omega), Nat.add_sub_cancel_left, hv]
      simp [Cx.tv, hvt]
    · show rel _ (argV _ _ _) _
      rw [h2]
      by_cases hi : i < 5000000
      · have := argT_rel (E := envOf (cxOf w ok ios n hn5) (rho0 ios) (argH ins (unL (IM.ks ins) x)) w) (w := w) (ok := ok) (ios := ios) rfl hrd hρ (i := 0) (args ++ Array.replicate (n - args.size) undef) h hd (fun _ _ h => h) (fun j v hj => by
          rw [Nat.zero_add]
          have hj' : args[j]? = some v := by simpa using hj
          obtain ⟨hlt, hv⟩ := Array.getElem?_eq_some_iff.1 hj'
          simp only [Array.getD_eq_getD_getElem?]
          rw [Array.getElem?_append_left hlt, hj']
          rfl) i
        rw [Cx.tv_lt hi]
        exact this
      · rw [argT_u (by omega)]
        trivial
/-- A function does what its plain function says. -/
theorem fn_ok {f : Nat} {fn : Func} {c : Code} {ins : List IM} {F : Leafs (IM.ks ins) → Option (Leafs (RM.ks outs))}
    (hf : P.funcs[f]? = some fn) (hb : fn.body = some c) (hname : (fn.name != "runtime.NumGoroutine") = true) (hmix : P.follows .mixedOrders = true)
    (hτ : TauOK P e.τ) (hΓ : ∀ f sp, e.Γ f = some sp → SpecOK P f sp) (hn : e.n = fn.ntmps) (hi : ins.length ≤ fn.ntmps) (hn5 : fn.ntmps ≤ 5000000) (hr : fn.results.toList = e.res)
    (hio : ioOuts outs = ioIns ins) (hk : nodups ((ioIns ins).map (·.1)) = true)
    (hl : ∀ C : Cx, e.n = C.n → Loops P C e c)
    (hc : ∀ x, codeE e c (fun _ _ => none) some (fun s => fin e s) (init ins x) = F x) : SpecOK P f ⟨ins, outs, F⟩ where
  io := hio
  enters := by rw [hf]; simp only [Option.any_some, hname, hb, Option.isSome_some, Bool.and_self]
  calls := by
    intro x y hy w ok ios args hok hkeys hib hinj hpv
    refine calls_of_wp hf hb ?_
    have hlen : args.size = ins.length := by
      have := PVs_len hpv
      simpa using this
    have I := init_ok (n := fn.ntmps) hok hkeys hib hinj (nodups_spec hk) hn5 hi hpv
    have hy : F x = some y := hy
    rw [← hc] at hy
    have hV : IoV ios (ioOuts outs) := by rw [hio]; exact PVs_IoV hpv
    have done : ∀ ρ s a w', Inv (cxOf w ok ios fn.ntmps hn5) ρ s a w' → fin e s = some y → a.defers = [] ∧ ∃ v, (results fn a.tmps).run P w' = .ok v w' ∧ (∃ v', Ending.returned v = .returned v' ∧ BelowX (iob ios) w.heap.size w w' ∧ ResR w w' ok ios outs (unL (RM.ks outs) y) v') := by
      intro ρ s a w' I hfin
      obtain ⟨v, h1, h2⟩ := fin_ok hτ hr (ios := ios) (fun j => by
        show (if 5000000 + j < 5000000 then none else ios (5000000 + j - 5000000)) = _
        rw [if_neg (by omega), Nat.add_sub_cancel_left]) (fun b hb => hb) (by rw [hio]; exact hkeys) hV I hfin
      exact ⟨I.hd, v, h1, v, rfl, I.fr, h2⟩
    refine code_ok ⟨hτ, hn, hΓ⟩ hmix c (hl _ hn) _ _ _ _ y hy _ _ _ I _ (fun ρ' s' a' w' h' I' => done ρ' s' a' w' I' h') (fun j ρ' s' a' w' h' I' => by cases h') (fun z a' w' h' hf => ?_)
    simp only [Option.some.injEq] at h'
    subst h'
    obtain ⟨ρ2, s2, I2, hf2⟩ := hf
    exact done ρ2 s2 a' w' I2 hf2
/-- A function that calls itself: with no rounds there is nothing to show. -/
theorem spec_none {f : Nat} {ins : List IM} {F : Leafs (IM.ks ins) → Option (Leafs (RM.ks outs))} {fn : Func} {c : Code} (hf : P.funcs[f]? = some fn) (hb : fn.body = some c) (hname : (fn.name != "runtime.NumGoroutine") = true)
    (hio : ioOuts outs = ioIns ins) (h0 : ∀ x, F x = none) : SpecOK P f ⟨ins, outs, F⟩ where
  io := hio
  enters := by rw [hf]; simp only [Option.any_some, hname, hb, Option.isSome_some, Bool.and_self]
  calls := by
    intro x y hy
    have hy : F x = some y := hy
    rw [h0] at hy
    cases hy
end Go.Proofs.Ytkgjchmfiohciaa.Den
