/- Calls. -/
import Derived.Test.YtkgjchmfiohciaaDenS14
namespace Go.Proofs.Ytkgjchmfiohciaa.Den
open Go.RowKit
set_option linter.unusedVariables false
set_option linter.unusedSimpArgs false
variable {P : Program} {C : Cx} {s : St} {o : Oper} {E : Eff} {h' : Nat → Option Row}
theorem Inv.many {ρ : Nat → Value} {s : St} {a : Act} {w : World} (I : Inv C ρ s a w) {h2 : Nat → Option Row} {ρ' : Nat → Value} {w' : World} (new io : Nat → Prop) {iob : Nat → Prop} (hg : BelowX iob w.heap.size w w')
    (hiob : ∀ b, iob b → ∃ i r, io i ∧ s.h i = some r ∧ blk (ρ i) = some b)
    (hold : ∀ i, ¬ new i → ¬ io i → h2 i = s.h i ∧ ρ' i = ρ i)
    (hio : ∀ i, io i → ¬ new i ∧ ∃ r r', s.h i = some r ∧ h2 i = some r' ∧ r.wr = true ∧ r'.ver = r.ver ∧ r.b.like r'.b ∧ ρ' i = ρ i)
    (hnew : ∀ i, new i → ∃ row, h2 i = some row ∧ (∀ r, s.h i = some r → r.ver < row.ver) ∧ (∀ b, blk (ρ' i) = some b → w.heap.size ≤ b))
    (hinj : ∀ i j b, new i → new j → blk (ρ' i) = some b → blk (ρ' j) = some b → i = j)
    (hrow : Mono (envOf C ρ s.h w) (envOf C ρ' h2 w') → ∀ i row, (new i ∨ io i) → h2 i = some row → RowOK C (envOf C ρ' h2 w') (ρ' i) row) :
    Inv C ρ' ⟨s.t, h2⟩ a w' ∧ Mono (envOf C ρ s.h w) (envOf C ρ' h2 w') := by
  classical
  have hlt : ∀ i r b, s.h i = some r → blk (ρ i) = some b → C.own b ∧ b < w.heap.size := fun i r b hr hb => (I.rows i r hr).blk_lt hb
  -- a row that is there before has its place and its number there before
  have hback : ∀ i r, ¬ new i → h2 i = some r → ∃ r0, s.h i = some r0 ∧ ρ' i = ρ i ∧ (r.wr = true → r0.wr = true) := by
    intro i r hn hr
    by_cases hi : io i
    · obtain ⟨_, r0, r', q1, q2, q3, q4, q5, q6⟩ := hio i hi
      exact ⟨r0, q1, q6, fun _ => q3⟩
    · rw [(hold i hn hi).1] at hr
      exact ⟨r, hr, (hold i hn hi).2, fun h => h⟩
  have m : Mono (envOf C ρ s.h w) (envOf C ρ' h2 w') := by
    refine ⟨fun b hb => ?_, fun i r hr => ?_⟩
    · obtain ⟨h1, h3, h4⟩ := hb
      refine ⟨⟨Nat.lt_of_lt_of_le h1 hg.size, h3, fun i r hr hw he => ?_⟩, hg.block b h1 fun hb => ?_⟩
      · by_cases e : new i
        · obtain ⟨row, _, _, h5⟩ := hnew i e
          have := h5 b he
          omega
        · obtain ⟨r0, q1, q2, q3⟩ := hback i r e hr
          rw [q2] at he
          exact h4 i r0 q1 (q3 hw) he
      · obtain ⟨i, r, q1, q2, q3⟩ := hiob b hb
        obtain ⟨_, r0, r', p1, p2, p3, p4, p5, p6⟩ := hio i q1
        exact h4 i r0 p1 p3 q3
    · have hr : s.h i = some r := hr
      by_cases e : new i
      · obtain ⟨row, h5, h6, _⟩ := hnew i e
        have := h6 r hr
        exact ⟨row, h5, by omega, fun h => by omega⟩
      · by_cases hi : io i
        · obtain ⟨_, r0, r', p1, p2, p3, p4, p5, p6⟩ := hio i hi
          rw [hr] at p1
          injection p1 with p1
          subst p1
          exact ⟨r', p2, by omega, fun _ => ⟨p5, p6⟩⟩
        · exact ⟨r, by show h2 i = _; rw [(hold i e hi).1]; exact hr, Nat.le_refl _, fun _ => ⟨RowB.like_refl _, (hold i e hi).2⟩⟩
  refine ⟨⟨I.hd, I.sz, ⟨hg.os.trans I.fr.os, hg.tape.trans I.fr.tape, hg.output.trans I.fr.output, Nat.le_trans I.fr.size hg.size, fun k hk hn => ?_⟩, fun i r hr => ?_, fun i j r r' b hr hr' hb hb' => ?_, fun i => rel_mono m (I.tm i)⟩, m⟩
  · rw [hg.block k (Nat.lt_of_lt_of_le hk I.fr.size) fun hb => ?_]
    · exact I.fr.block k hk hn
    · obtain ⟨i, r, q1, q2, q3⟩ := hiob k hb
      rcases (hlt i r k q2 q3).1 with h | h
      · omega
      · exact hn h
  · by_cases e : new i
    · exact hrow m i r (.inl e) hr
    · by_cases hi : io i
      · exact hrow m i r (.inr hi) hr
      · have hr : h2 i = some r := hr
        rw [(hold i e hi).1] at hr
        rw [(hold i e hi).2]
        refine (I.rows i r hr).mono m fun b hb => hg.block b (hlt i r b hr hb).2 fun hb2 => ?_
        obtain ⟨j, rj, q1, q2, q3⟩ := hiob b hb2
        have := I.inj i j r rj b hr q2 hb q3
        subst this
        exact hi q1
  · have hr : h2 i = some r := hr
    have hr' : h2 j = some r' := hr'
    by_cases e : new i
    · by_cases e' : new j
      · exact hinj i j b e e' hb hb'
      · obtain ⟨r0, q1, q2, q3⟩ := hback j r' e' hr'
        rw [q2] at hb'
        obtain ⟨_, _, _, h5⟩ := hnew i e
        have := h5 b hb
        have := (hlt j r0 b q1 hb').2
        omega
    · obtain ⟨r0, q1, q2, q3⟩ := hback i r e hr
      rw [q2] at hb
      by_cases e' : new j
      · obtain ⟨_, _, _, h5⟩ := hnew j e'
        have := h5 b hb'
        have := (hlt i r0 b q1 hb).2
        omega
      · obtain ⟨r1, p1, p2, p3⟩ := hback j r' e' hr'
        rw [p2] at hb'
        exact I.inj i j r0 r1 b q1 p1 hb hb'
theorem inner_cons {h : Nat → Option Row} (j : Nat) (l : List Nat) : inner h (j :: l) = inner h [j] ++ inner h l := by
  simp only [inner]
  split <;> simp
theorem inner_append {h : Nat → Option Row} : ∀ (a b : List Nat), inner h (a ++ b) = inner h a ++ inner h b
  | [], b => rfl
  | j :: a, b => by rw [List.cons_append, inner_cons, inner_append a b, inner_cons j a, List.append_assoc]
theorem inner_left {h : Nat → Option Row} (a b : List Nat) (i : Nat) (hi : i ∈ inner h a) : i ∈ inner h (a ++ b) := by rw [inner_append]; exact List.mem_append_left _ hi
theorem inner_right {h : Nat → Option Row} (a b : List Nat) (i : Nat) (hi : i ∈ inner h b) : i ∈ inner h (a ++ b) := by rw [inner_append]; exact List.mem_append_right _ hi
/-- A box, with what it holds. -/
def BoxR (w : World) (rd : Nat → Prop) (ty : Nat) (k : K) (x : T k) (v : Value) : Prop :=
  ∃ g cur, v = .pointer (some ⟨g, 0, none⟩) ∧ w.heap[g]? = some (.cells cur ty (0, 0)) ∧ RC w rd k x cur.toList
/-- A row, with what it holds. -/
def ListR (w : World) (rd : Nat → Prop) (ty : Nat) (k : K) (xs : List (T k)) (v : Value) : Prop :=
  ∃ vals, w.ownsRow 0 ty k.cells v xs.length vals ∧ RL (RC w rd k) xs vals
/-- A part of a row. -/
def PartR (k : K) (n off len : Nat) (vr v : Value) : Prop :=
  isSl v ∧ ∃ A cap, off + len ≤ n ∧ len ≤ cap ∧ v = .slice A len cap ∧ (0 < len → ∃ b, blk vr = some b ∧ A = some ⟨b, off * k.cells, none⟩) ∧ (off = 0 → ∀ A' n c, vr = .slice A' n c → A = A' ∧ cap = c)
/-- What came back. -/
def ResRel (w : World) (n0 : Nat) (rd : Nat → Prop) (ios : Nat → Option Value) : List RM → List PV → List Value → List Nat → Prop
  | [], [], vs, bs => vs = [] ∧ bs = []
  | .v k :: ms, p :: ps, vs, bs => ∃ v vs', vs = v :: vs' ∧ p.k = k ∧ VR w rd p.k p.v v ∧ ResRel w n0 rd ios ms ps vs' bs
  | .c k :: ms, ⟨.slice k', xs⟩ :: ps, vs, bs => ∃ v vs', vs = v :: vs' ∧ k' = k ∧ (∃ A, v = .slice A (List.length xs) (List.length xs)) ∧ RC w rd (.slice k') xs [v] ∧ ResRel w n0 rd ios ms ps vs' bs
  | .o ty k fl :: ms, ⟨.slice k', xs⟩ :: ps, vs, bs => ∃ v vs' bs' vals, vs = v :: vs' ∧ k' = k ∧ bs = (blk v).toList ++ bs' ∧ w.ownsRow n0 ty k'.cells v (List.length xs) vals ∧ RL (RC w rd k') xs vals ∧ isSlf fl v ∧ ResRel w n0 rd ios ms ps vs' bs'
  | .b j ty k :: ms, p :: ps, vs, bs => (∃ v, ios j = some v ∧ p.k = k ∧ BoxR w rd ty p.k p.v v) ∧ ResRel w n0 rd ios ms ps vs bs
  | .r j ty k :: ms, ⟨.slice k', xs⟩ :: ps, vs, bs => (∃ v, ios j = some v ∧ k' = k ∧ ListR w rd ty k' xs v) ∧ ResRel w n0 rd ios ms ps vs bs
  | _, _, _, _ => False
def resVal : List Value → Value
  | [v] => v
  | vs => .tuple vs.toArray
def ResR (w w' : World) (ok : Nat → Prop) (ios : Nat → Option Value) (outs : List RM) (ps : List PV) (v : Value) : Prop :=
  ∃ vs bs, v = resVal vs ∧ bs.Nodup ∧ ResRel w' w.heap.size (fun b => b < w'.heap.size ∧ (ok b ∨ w.heap.size ≤ b) ∧ b ∉ bs) ios outs ps vs bs
def capsT : List CM → List PV → List AV × List PV
  | [], l => ([], l)
  | .ro _ :: ks, p :: l => (.fe p.k p.v :: (capsT ks l).1, (capsT ks l).2)
  | .io j _ _ :: ks, _ :: l => (.ad (3000000 + j) 0 0 :: (capsT ks l).1, (capsT ks l).2)
  | _ :: _, [] => ([], [])
def CapR (w : World) (ok : Nat → Prop) (ios : Nat → Option Value) : List CM → List PV → List Value → Prop
  | [], _, c => c = []
  | .ro _ :: ks, p :: l, c => ∃ u c', c = u :: c' ∧ FE w ok p.k p.v u ∧ CapR w ok ios ks l c'
  | .io j ty k :: ks, p :: l, c => ∃ u c', c = u :: c' ∧ ios j = some u ∧ p.k = k ∧ BoxR w ok ty p.k p.v u ∧ CapR w ok ios ks l c'
  | _ :: _, [], _ => False
def PVs (w : World) (ok : Nat → Prop) (ios : Nat → Option Value) : List IM → List PV → List Value → Prop
  | [], ps, vs => ps = [] ∧ vs = []
  | .v _ :: is, p :: ps, vs => ∃ v vs', vs = v :: vs' ∧ VR w ok p.k p.v v ∧ PVs w ok ios is ps vs'
  | .pl _ :: is, p :: ps, vs => ∃ v vs', vs = v :: vs' ∧ FE w ok p.k p.v v ∧ PVs w ok ios is ps vs'
  | .f g ks :: is, ps, vs => ∃ c vs', vs = .func (.func g) #[] c :: vs' ∧ CapR w ok ios ks ps c.toList ∧ PVs w ok ios is (capsT ks ps).2 vs'
  | .b j ty k :: is, p :: ps, vs => ∃ v vs', vs = v :: vs' ∧ ios j = some v ∧ p.k = k ∧ BoxR w ok ty p.k p.v v ∧ PVs w ok ios is ps vs'
  | .r j ty k fl :: is, ⟨.slice k', xs⟩ :: ps, vs => ∃ v vs', vs = v :: vs' ∧ ios j = some v ∧ k' = k ∧ isSlf fl v ∧ ListR w ok ty k' xs v ∧ PVs w ok ios is ps vs'
  | .s j ty k :: is, ⟨.slice k', xs⟩ :: ⟨.int .i64, off⟩ :: ⟨.int .i64, len⟩ :: ps, vs => ∃ v vr vs', vs = v :: vs' ∧ ios j = some vr ∧ k' = k ∧ isSl vr ∧ ListR w ok ty k' xs vr ∧ PartR k' (List.length xs) (Int.toNat off) (Int.toNat len) vr v ∧ PVs w ok ios is ps vs'
  | _, _, _ => False
def iob (ios : Nat → Option Value) (b : Nat) : Prop := ∃ j v, ios j = some v ∧ blk v = some b
/-- A callee does what its plain function says. -/
structure SpecOK (P : Program) (f : Nat) (sp : Spec) : Prop where
  io : ioOuts sp.outs = ioIns sp.ins
  enters : (P.funcs[f]?).any (fun fn => fn.name != "runtime.NumGoroutine" && fn.body.isSome) = true
  calls : ∀ x y, sp.f x = some y → ∀ (w : World) (ok : Nat → Prop) (ios : Nat → Option Value) (args : Array Value), (∀ b, ok b → b < w.heap.size) →
    (∀ j v, ios j = some v → j ∈ (ioIns sp.ins).map (·.1)) → (∀ b, iob ios b → b < w.heap.size ∧ ¬ ok b) → (∀ i j u v b, ios i = some u → ios j = some v → blk u = some b → blk v = some b → i = j) → PVs w ok ios sp.ins (unL (IM.ks sp.ins) x) args.toList →
    Calls P f args w fun e w' => ∃ v, e = .returned v ∧ BelowX (iob ios) w.heap.size w w' ∧ ResR w w' ok ios sp.outs (unL (RM.ks sp.outs) y) v
theorem run_enter {f : Nat} {args : Array Value} {w : World} (h : (P.funcs[f]?).any (fun fn => fn.name != "runtime.NumGoroutine" && fn.body.isSome) = true) : (callFunc f args).run P w = .ok (.enter f args) w := by
  cases hf : P.funcs[f]? with
  | none => rw [hf] at h; simp at h
  | some fn =>
    rw [hf] at h
    simp only [Option.any_some, Bool.and_eq_true, bne_iff_ne, ne_eq] at h
    obtain ⟨h1, h2⟩ := h
    obtain ⟨c, hc⟩ := Option.isSome_iff_exists.1 h2
    simp [callFunc, hf, h1, hc]
theorem capOf_gen {ρ : Nat → Value} {a : Act} {w : World} (I : Inv C ρ s a w) {rd' : Nat → Prop} (hrd : ∀ b, Rd C s.h ρ w b → rd' b) (hsub : ∀ id row, h' id = some row → s.h id = some row) {k : K} {v : AV} {x : T k} {u : Value}
    (hids : ∀ id ∈ v.ids, ∀ r, s.h id = some r → ∀ b, blk (ρ id) = some b → rd' b) (h : capOf h' k v = some x) (hv : rel (envOf C ρ s.h w) v u) : FE w rd' k x u := by
  unfold capOf at h
  split at h
  · split at h
    · rename_i e
      subst e
      simp only [castT_rfl, Option.some.injEq] at h
      subst h
      exact FE_mono (fun b hb => ⟨hrd b hb, rfl⟩) hv
    · cases h
  · rename_i id ver off
    split at h
    rotate_left
    · cases h
    rename_i rv wr rt cs hrow
    split at h
    rotate_left
    · cases h
    rename_i hc
    obtain ⟨rfl, hle⟩ := hc
    have hrow := hsub _ _ hrow
    obtain ⟨_, row, e1, e2, e3⟩ := hv
    have e1 : s.h id = some row := e1
    rw [hrow] at e1
    injection e1 with e1
    subst e1
    obtain ⟨b, e4, e5⟩ := e3 rfl
    obtain ⟨b', c, g1, g2, g3, g4⟩ := I.rows id _ hrow
    have e4 : ρ id = .pointer (some ⟨b, 0, none⟩) := e4
    rw [g1] at e4
    simp only [Value.pointer.injEq, Option.some.injEq, Addr.mk.injEq, and_true] at e4
    subst e4
    have hrdb : rd' b' := hids id (by simp [AV.ids]) _ hrow b' (by rw [g1]; rfl)
    have hlen := rels_len g4
    have hrel := rels_take k.cells (rels_drop off g4)
    have hl : ((c.toList.drop off).take k.cells).length = k.cells := by rw [List.length_take, List.length_drop]; omega
    have hat : At w b' off ((c.toList.drop off).take k.cells) := by
      intro j u hu
      rw [cell_of_row w b' _ c _ _ g3]
      have hj : j < k.cells := by
        have := (List.getElem?_eq_some_iff.1 hu).1
        rw [hl] at this; exact this
      rw [List.getElem?_take, if_pos hj, List.getElem?_drop] at hu
      simpa using hu
    refine ⟨b', off, (c.toList.drop off).take k.cells, e5, ?_, fun _ => hrdb, hat⟩
    split at h
    · have := (toK_pure (R := envOf C ρ s.h w) (u := .agg ((c.toList.drop off).take k.cells).toArray) h ⟨_, rfl, by simpa using hrel⟩).1
      have := RC_mono (w' := w) (rd' := rd') (fun b hb => ⟨hrd b hb, rfl⟩) this
      simpa [Value.cells] using this
    · rename_i hagg
      rw [cells_one (by simpa using hagg)] at hl hat hrel ⊢
      obtain ⟨v, hv⟩ := List.length_eq_one_iff.1 hl
      rw [hv] at hat hrel ⊢
      split at h
      · rename_i av hav
        have ho := (List.getElem?_eq_some_iff.1 hav).1
        obtain ⟨u', hu1, hu2⟩ := rels_get (i := 0) (a := av) hrel (by rw [List.getElem?_take]; simp [hav])
        simp at hu1
        subst hu1
        have hvr := (toK_pure (R := envOf C ρ s.h w) h hu2).2
        have hvr := VR_mono (w' := w) (rd' := rd') (fun b hb => ⟨hrd b hb, rfl⟩) hvr
        unfold VR at hvr
        rwa [if_neg hagg] at hvr
      · cases h
  · cases h
/-- A box is read whole. -/
theorem boxOf_gen {ρ : Nat → Value} {a : Act} {w : World} (I : Inv C ρ s a w) {rd' : Nat → Prop} (hrd : ∀ b, Rd C s.h ρ w b → rd' b) (hsub : ∀ id row, h' id = some row → s.h id = some row) {ty : Nat} {k : K} {v : AV} {x : T k} {u : Value}
    (hids : ∀ id ∈ inner h' v.ids, ∀ r, s.h id = some r → ∀ b, blk (ρ id) = some b → rd' b) (h : boxOf h' ty k v = some x) (hv : rel (envOf C ρ s.h w) v u) :
    ∃ id ver cs, v = .ad id ver 0 ∧ s.h id = some ⟨ver, true, ty, .cells cs⟩ ∧ cs.length = k.cells ∧ u = ρ id ∧ BoxR w rd' ty k x u := by
  unfold boxOf at h
  split at h
  rotate_left
  · cases h
  rename_i id ver
  split at h
  rotate_left
  · cases h
  rename_i rv ty' cs hrow
  split at h
  rotate_left
  · cases h
  rename_i hc
  obtain ⟨rfl, rfl⟩ := hc
  have hrow0 := hrow
  have hrow := hsub _ _ hrow
  obtain ⟨_, row, e1, e2, e3⟩ := hv
  have e1 : s.h id = some row := e1
  rw [hrow] at e1
  injection e1 with e1
  subst e1
  obtain ⟨b, e4, e5⟩ := e3 rfl
  obtain ⟨b', c, g1, g2, g3, g4⟩ := I.rows id _ hrow
  have e4 : ρ id = .pointer (some ⟨b, 0, none⟩) := e4
  rw [g1] at e4
  simp only [Value.pointer.injEq, Option.some.injEq, Addr.mk.injEq, and_true] at e4
  subst e4
  split at h
  rotate_left
  · cases h
  rename_i y hy
  simp only [Option.some.injEq] at h
  subst h
  obtain ⟨a', b2, e, h1, h2, _⟩ := unflat_gen (R := envOf C ρ s.h w) (h0 := h') (w := w) (rd := rd') (p := fun v => ∀ id ∈ v.ids, ∀ r, s.h id = some r → ∀ b, blk (ρ id) = some b → rd' b)
    (fun k v x u ha hp hx hv => by
      have gen : ∀ (k : K) (x : T k), k.agg = false → asP k v = some x → RC w rd' k x [u] := by
        intro k x ha h
        unfold asP at h
        split at h
        · split at h
          · rename_i e
            subst e
            simp only [castT_rfl, Option.some.injEq] at h
            subst h
            have hv : VR w (Rd C s.h ρ w) _ _ u := hv
            have hv := VR_mono (w' := w) (rd' := rd') (fun b hb => ⟨hrd b hb, rfl⟩) hv
            unfold VR at hv
            rwa [if_neg (by simp [ha])] at hv
          · cases h
        · cases h
      cases k with
      | slice k => exact rdSl_gen I hrd hp hsub hx hv
      | int i => exact gen _ x ha hx
      | bool => exact gen _ x ha hx
      | str => exact gen _ x ha hx
      | _ => simp [K.agg] at ha)
    k _ _ _ _ (fun v hv id' hid => hids id' (by simp only [AV.ids, inner, hrow0]; exact List.mem_append_left _ (ids_mem hv id' hid))) hy g4
  simp only [rels] at h2
  subst h2
  simp only [List.append_nil] at e
  refine ⟨id, rv, cs, rfl, hrow, ?_, by rw [g1]; exact e5, b', c, e5, g3, by rw [e]; exact h1⟩
  rw [← rels_len g4, e, RC_len h1]
theorem capsOf_gen {ρ : Nat → Value} {a : Act} {w : World} (I : Inv C ρ s a w) {rd' : Nat → Prop} (hrd : ∀ b, Rd C s.h ρ w b → rd' b) (hsub : ∀ id row, h' id = some row → s.h id = some row) {ios : Nat → Option Value} :
    ∀ {ks : List CM} {vs : List AV} {l : List PV} {us : List Value} (l' : List PV), (∀ id ∈ capRo ks vs ++ inner h' ((capIds ks vs).map (·.2)), ∀ r, s.h id = some r → ∀ b, blk (ρ id) = some b → rd' b) → (∀ p ∈ capIds ks vs, ios p.1 = some (ρ p.2)) →
      capsOf h' ks vs = some l → rels (envOf C ρ s.h w) vs us → CapR w rd' ios ks (l ++ l') us ∧ (capsT ks (l ++ l')).2 = l'
  | [], [], l, us, l', hids, hio, h, hr => by
    simp only [capsOf, Option.some.injEq] at h
    subst h
    exact ⟨hr, rfl⟩
  | .ro k :: ks, v :: vs, l, us, l', hids, hio, h, hr => by
    simp only [capsOf] at h
    split at h
    · rename_i x hx
      split at h
      · rename_i l2 hl2
        simp only [Option.some.injEq] at h
        subst h
        obtain ⟨u, us', rfl, h1, h2⟩ := hr
        obtain ⟨g1, g2⟩ := capsOf_gen I hrd hsub l' (fun id hid => hids id (by
          simp only [capRo, capIds, List.mem_append] at hid ⊢
          exact hid.imp (fun h => .inr h) (fun h => h))) (fun p hp => hio p (by simpa [capIds] using hp)) hl2 h2
        exact ⟨⟨u, us', rfl, capOf_gen I hrd hsub (fun id hid => hids id (by simp [capRo, hid])) hx h1, g1⟩, g2⟩
      · cases h
    · cases h
  | .io j ty k :: ks, v :: vs, l, us, l', hids, hio, h, hr => by
    simp only [capsOf] at h
    split at h
    · rename_i x hx
      split at h
      · rename_i l2 hl2
        simp only [Option.some.injEq] at h
        subst h
        obtain ⟨u, us', rfl, h1, h2⟩ := hr
        obtain ⟨g1, g2⟩ := capsOf_gen I hrd hsub l' (fun id hid => hids id (by
          simp only [capRo, capIds, List.mem_append, List.map_append] at hid ⊢
          refine hid.imp (fun h => h) fun h => ?_
          exact inner_right _ _ _ h)) (fun p hp => hio p (by simp only [capIds, List.mem_append]; exact .inr hp)) hl2 h2
        obtain ⟨id, ver, cs, rfl, q1, q2, q3, q4⟩ := boxOf_gen I hrd hsub (fun id hid => hids id (by
          simp only [capRo, capIds, List.mem_append, List.map_append]
          right
          refine inner_left _ _ _ ?_
          simpa [AV.ids, Function.comp_def] using hid)) hx h1
        refine ⟨⟨u, us', rfl, ?_, rfl, q4, g1⟩, g2⟩
        rw [q3]
        exact hio (j, id) (by simp [capIds, AV.ids])
      · cases h
    · cases h
  | [], v :: vs, l, us, l', hids, hio, h, hr => by simp [capsOf] at h
  | .ro k :: ks, [], l, us, l', hids, hio, h, hr => by simp [capsOf] at h
  | .io j ty k :: ks, [], l, us, l', hids, hio, h, hr => by simp [capsOf] at h
theorem argsOf_gen {ρ : Nat → Value} {a : Act} {w : World} (I : Inv C ρ s a w) {rd' : Nat → Prop} (hrd : ∀ b, Rd C s.h ρ w b → rd' b) (hsub : ∀ id row, h' id = some row → s.h id = some row) {ios : Nat → Option Value} :
    ∀ {is : List IM} {vs : List AV} {l : List PV} {us : List Value}, (∀ id ∈ roIds is vs ++ inner h' ((ioIds is vs).map (·.2)), ∀ r, s.h id = some r → ∀ b, blk (ρ id) = some b → rd' b) → (∀ p ∈ ioIds is vs, ios p.1 = some (ρ p.2)) →
      argsOf h' is vs = some l → rels (envOf C ρ s.h w) vs us → PVs w rd' ios is l us := by
  intro is
  induction is with
  | nil =>
    intro vs l us hids hio h hr
    cases vs with
    | nil =>
      simp only [argsOf, Option.some.injEq] at h
      subst h
      exact ⟨rfl, hr⟩
    | cons v vs => simp [argsOf] at h
  | cons m is ih =>
    intro vs l us hids hio h hr
    cases vs with
    | nil => cases m <;> simp [argsOf] at h
    | cons v vs =>
      obtain ⟨u, us', rfl, h1, h2⟩ := hr
      cases m with
      | v k =>
        simp only [argsOf] at h
        split at h
        · rename_i x hx
          split at h
          · rename_i l' hl'
            simp only [Option.some.injEq] at h
            subst h
            exact ⟨u, us', rfl, toK_gen I hrd (fun id hid => hids id (by simp [roIds, hid])) hsub hx h1, ih (fun id hid => hids id (by
              simp only [roIds, ioIds, List.mem_append] at hid ⊢
              exact hid.imp .inr (fun h => h))) (fun p hp => hio p (by simpa [ioIds] using hp)) hl' h2⟩
          · cases h
        · cases h
      | pl k =>
        simp only [argsOf] at h
        split at h
        · rename_i x hx
          split at h
          · rename_i l' hl'
            simp only [Option.some.injEq] at h
            subst h
            exact ⟨u, us', rfl, capOf_gen I hrd hsub (fun id hid => hids id (by simp [roIds, hid])) hx h1, ih (fun id hid => hids id (by
              simp only [roIds, ioIds, List.mem_append] at hid ⊢
              exact hid.imp .inr (fun h => h))) (fun p hp => hio p (by simpa [ioIds] using hp)) hl' h2⟩
          · cases h
        · cases h
      | f g ks =>
        cases v with
        | fn g' cs =>
          simp only [argsOf] at h
          split at h
          · rename_i hg
            subst hg
            split at h
            · rename_i l1 hl1
              split at h
              · rename_i l2 hl2
                simp only [Option.some.injEq] at h
                subst h
                obtain ⟨c, rfl, hc⟩ := h1
                obtain ⟨g1, g2⟩ := capsOf_gen I hrd hsub (ios := ios) l2 (fun id hid => hids id (by
                  simp only [roIds, ioIds, List.mem_append, List.map_append] at hid ⊢
                  exact hid.imp .inl fun h => inner_left _ _ _ h)) (fun p hp => hio p (by simp only [ioIds, List.mem_append]; exact .inl hp)) hl1 hc
                refine ⟨c, us', rfl, g1, ?_⟩
                rw [g2]
                exact ih (fun id hid => hids id (by
                  simp only [roIds, ioIds, List.mem_append, List.map_append] at hid ⊢
                  exact hid.imp .inr fun h => inner_right _ _ _ h)) (fun p hp => hio p (by simp only [ioIds, List.mem_append]; exact .inr hp)) hl2 h2
              · cases h
            · cases h
          · cases h
        | _ => simp [argsOf] at h
      | b j ty k =>
        simp only [argsOf] at h
        split at h
        · rename_i x hx
          split at h
          · rename_i l' hl'
            simp only [Option.some.injEq] at h
            subst h
            obtain ⟨id, ver, cs, rfl, q1, q2, q3, q4⟩ := boxOf_gen I hrd hsub (fun id hid => hids id (by
              simp only [roIds, ioIds, List.mem_append, List.map_append]
              right
              refine inner_left _ _ _ ?_
              simpa [AV.ids, Function.comp_def] using hid)) hx h1
            refine ⟨u, us', rfl, ?_, rfl, q4, ih (fun id' hid => hids id' (by
              simp only [roIds, ioIds, List.mem_append, List.map_append] at hid ⊢
              exact hid.imp (fun h => h) fun h => inner_right _ _ _ h)) (fun p hp => hio p (by simp only [ioIds, List.mem_append]; exact .inr hp)) hl' h2⟩
            rw [q3]
            exact hio (j, id) (by simp [ioIds, AV.ids])
          · cases h
        · cases h
      | r j ty k fl =>
        cases v with
        | slw id ver fl' =>
          simp only [argsOf] at h
          split at h
          rotate_left
          · cases h
          rename_i rv ty' k' xs hrow
          split at h
          rotate_left
          · cases h
          rename_i hc
          obtain ⟨rfl, rfl, rfl, hfl⟩ := hc
          split at h
          rotate_left
          · cases h
          rename_i l' hl'
          simp only [Option.some.injEq] at h
          subst h
          have h4 := hsub _ _ hrow
          obtain ⟨e0, row, e1, e2, e3⟩ := h1
          have e1 : s.h id = some row := e1
          rw [h4] at e1
          injection e1 with e1
          subst e1
          obtain ⟨_, e5⟩ := e3 rfl
          have e5 : u = ρ id := e5
          obtain ⟨vals, hown, hl, _⟩ := I.rows id _ h4
          have hown : World.holds w C.own ty' k'.cells (ρ id) xs.length vals := hown
          refine ⟨u, us', rfl, ?_, rfl, ?_, ⟨vals, by rw [e5]; exact hown.ownsRow (by rw [← e5]; exact e0.sl), RL_imp (fun x c hx => RC_mono (fun b hb => ⟨hrd b hb, rfl⟩) hx) hl⟩, ih (fun id' hid => hids id' (by
              simp only [roIds, ioIds, List.mem_append, List.map_append] at hid ⊢
              exact hid.imp (fun h => h) fun h => inner_right _ _ _ h)) (fun p hp => hio p (by simp only [ioIds, List.mem_append]; exact .inr hp)) hl' h2⟩
          · rw [e5]
            exact hio (j, id) (by simp [ioIds, AV.ids])
          · cases u <;> simp_all [isSlf]
            intro hh
            cases fl' <;> simp_all
        | _ => simp [argsOf] at h
      | s j ty k =>
        cases v with
        | sl id ver off len =>
          simp only [argsOf] at h
          split at h
          rotate_left
          · cases h
          rename_i rv ty' k' xs hrow
          split at h
          rotate_left
          · cases h
          rename_i hc
          obtain ⟨rfl, rfl, rfl⟩ := hc
          split at h
          rotate_left
          · cases h
          rename_i l' hl'
          simp only [Option.some.injEq] at h
          subst h
          have h4 := hsub _ _ hrow
          obtain ⟨e0, row, e1, e2, e3⟩ := h1
          have e1 : s.h id = some row := e1
          rw [h4] at e1
          injection e1 with e1
          subst e1
          obtain ⟨hslρ, k3, xs2, A, c, hb2, hof, hlc, hA, hAb, hz⟩ := e3 rfl
          simp only [RowB.list.injEq] at hb2
          obtain ⟨rfl, hb2⟩ := hb2
          have hb2 := eq_of_heq hb2
          subst hb2
          obtain ⟨vals, hown, hl, _⟩ := I.rows id _ h4
          have hown : World.holds w C.own ty' k'.cells (ρ id) xs.length vals := hown
          refine ⟨u, ρ id, us', rfl, hio (j, id) (by simp [ioIds, AV.ids]), rfl, hslρ, ⟨vals, hown.ownsRow hslρ, RL_imp (fun x c hx => RC_mono (fun b hb => ⟨hrd b hb, rfl⟩) hx) hl⟩, ⟨e0, A, c, ?_, ?_, ?_, ?_, ?_⟩, ih (fun id' hid => hids id' (by
              simp only [roIds, ioIds, List.mem_append, List.map_append] at hid ⊢
              exact hid.imp (fun h => h) fun h => inner_right _ _ _ h)) (fun p hp => hio p (by simp only [ioIds, List.mem_append]; exact .inr hp)) hl' h2⟩
          · simpa using hof
          · simpa using hlc
          · simpa using hA
          · simpa using hAb
          · simpa using hz
        | _ => simp [argsOf] at h
theorem leafs_unL : ∀ {ks : List K} {l : List PV} {v : Leafs ks}, leafs ks l = some v → unL ks v = l
  | [], [], v, h => rfl
  | [k], [p], v, h => by
    simp only [leafs] at h
    split at h
    · rename_i e
      obtain ⟨pk, pv⟩ := p
      simp only at e
      subst e
      simp only [castT_rfl, Option.some.injEq] at h
      subst h
      rfl
    · cases h
  | k :: k' :: ks, p :: l, v, h => by
    simp only [leafs] at h
    split at h
    · rename_i e
      split at h
      · rename_i y hy
        obtain ⟨pk, pv⟩ := p
        simp only at e
        subst e
        simp only [castT_rfl, Option.some.injEq] at h
        subst h
        simp only [unL]
        rw [leafs_unL hy]
      · cases h
    · cases h
  | [], _ :: _, v, h => by simp [leafs] at h
  | [k], [], v, h => by simp [leafs] at h
  | [k], _ :: _ :: _, v, h => by simp [leafs] at h
  | k :: k' :: ks, [], v, h => by simp [leafs] at h
/-- Rows are frozen. -/
theorem Inv.freezes {ρ : Nat → Value} {a : Act} {w : World} : ∀ (L : List (Nat × Row)) (s : St), Inv C ρ s a w → (∀ p ∈ L, ∃ r, s.h p.1 = some r ∧ p.2 = { r with wr := false }) →
    Inv C ρ ⟨s.t, hupd s.h L⟩ a w ∧ Mono (envOf C ρ s.h w) (envOf C ρ (hupd s.h L) w) ∧
    (∀ i, (∃ p ∈ L, p.1 = i) → ∃ r, hupd s.h L i = some r ∧ r.wr = false) ∧ (∀ i, (hupd s.h L i).map (fun r => (r.ver)) = (s.h i).map (fun r => r.ver)) ∧ (∀ i r, s.h i = some r → r.wr = false → ∃ r', hupd s.h L i = some r' ∧ r'.wr = false)
  | [], s, I, h => ⟨I, Mono.refl _, fun i ⟨p, hp, _⟩ => by simp at hp, fun i => rfl, fun i r h1 h2 => ⟨r, h1, h2⟩⟩
  | p :: L, s, I, h => by
    obtain ⟨r, hr, hp⟩ := h p (by simp)
    obtain ⟨I1, m1⟩ := I.freeze1 hr
    have hs1 : ∀ q ∈ L, ∃ r', (upd s.h p.1 (some { r with wr := false })) q.1 = some r' ∧ q.2 = { r' with wr := false } := by
      intro q hq
      obtain ⟨r', hr', hq'⟩ := h q (List.mem_cons_of_mem _ hq)
      by_cases e : q.1 = p.1
      · rw [e] at hr' ⊢
        rw [hr] at hr'
        injection hr' with hr'
        subst hr'
        exact ⟨_, upd_same _ _ _, hq'⟩
      · exact ⟨r', by rw [upd_other _ _ e]; exact hr', hq'⟩
    obtain ⟨I2, m2, f2, v2, k2⟩ := Inv.freezes L ⟨s.t, upd s.h p.1 (some { r with wr := false })⟩ I1 hs1
    have e : hupd s.h (p :: L) = hupd (upd s.h p.1 (some { r with wr := false })) L := by simp only [hupd]; rw [hp]
    rw [e]
    refine ⟨I2, ⟨fun b hb => ?_, fun i r0 hr0 => ?_⟩, fun i hi => ?_, fun i => ?_, fun i r0 h1 h2 => ?_⟩
    · exact ⟨(m2.rd b (m1.rd b hb).1).1, rfl⟩
    · obtain ⟨r1, a1, a2, a3⟩ := m1.row i r0 hr0
      obtain ⟨r2, b1, b2, b3⟩ := m2.row i r1 a1
      refine ⟨r2, b1, Nat.le_trans a2 b2, fun hv => ?_⟩
      obtain ⟨c1, c2⟩ := a3 (by omega)
      obtain ⟨d1, d2⟩ := b3 (by omega)
      refine ⟨?_, d2.trans c2⟩
      cases h0 : r0.b <;> cases h1 : r1.b <;> cases h2 : r2.b <;> rw [h0, h1] at c1 <;> rw [h1, h2] at d1 <;> simp_all [RowB.like]
    · obtain ⟨q, hq, rfl⟩ := hi
      rcases List.mem_cons.1 hq with rfl | hq
      · exact k2 _ _ (upd_same _ _ _) rfl
      · exact f2 _ ⟨q, hq, rfl⟩
    · rw [v2 i]
      by_cases e' : i = p.1
      · subst e'
        show (upd s.h p.1 _ p.1).map _ = _
        rw [upd_same, hr]; rfl
      · show (upd s.h p.1 _ i).map _ = _
        rw [upd_other _ _ e']
    · by_cases e' : i = p.1
      · subst e'
        exact k2 _ _ (upd_same _ _ _) rfl
      · exact k2 i r0 (by show upd s.h p.1 _ i = _; rw [upd_other _ _ e']; exact h1) h2
end Go.Proofs.Ytkgjchmfiohciaa.Den
