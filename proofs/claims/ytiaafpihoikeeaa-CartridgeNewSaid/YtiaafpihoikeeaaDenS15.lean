/- Calls. -/
import Derived.Test.YtiaafpihoikeeaaDenS14
namespace Go.Proofs.Ytiaafpihoikeeaa.Den
open Go.RowKit
set_option linter.unusedVariables false
set_option linter.unusedSimpArgs false
variable {P : Program} {C : Cx} {s : St} {o : Oper} {E : Eff} {h' : Nat → Option Row}
theorem Inv.many {ρ : Nat → Value} {s : St} {a : Act} {w : World} (I : Inv C ρ s a w) {h2 : Nat → Option Row} {ρ' : Nat → Value} {w' : World} (new : Nat → Prop) (hg : w.grownBy w' none)
    (hold : ∀ i, ¬ new i → h2 i = s.h i ∧ ρ' i = ρ i)
    (hnew : ∀ i, new i → ∃ row, h2 i = some row ∧ (∀ r, s.h i = some r → r.ver < row.ver) ∧ (∀ b, blk (ρ' i) = some b → w.heap.size ≤ b))
    (hinj : ∀ i j b, new i → new j → blk (ρ' i) = some b → blk (ρ' j) = some b → i = j)
    (hrow : Mono (envOf C ρ s.h w) (envOf C ρ' h2 w') → ∀ i row, new i → h2 i = some row → RowOK C (envOf C ρ' h2 w') (ρ' i) row) :
    Inv C ρ' ⟨s.t, h2⟩ a w' ∧ Mono (envOf C ρ s.h w) (envOf C ρ' h2 w') := by
  have hlt : ∀ i r b, s.h i = some r → blk (ρ i) = some b → C.w0.heap.size ≤ b ∧ b < w.heap.size := fun i r b hr hb => (I.rows i r hr).blk_lt hb
  have m : Mono (envOf C ρ s.h w) (envOf C ρ' h2 w') := by
    refine ⟨fun b hb => ?_, fun i r hr => ?_⟩
    · obtain ⟨h1, h3, h4⟩ := hb
      refine ⟨⟨Nat.lt_of_lt_of_le h1 hg.size, h3, fun i r hr hw he => ?_⟩, hg.block b h1 (by simp)⟩
      by_cases e : new i
      · obtain ⟨row, _, _, h5⟩ := hnew i e
        have := h5 b he
        omega
      · rw [(hold i e).1] at hr
        rw [(hold i e).2] at he
        exact h4 i r hr hw he
    · have hr : s.h i = some r := hr
      by_cases e : new i
      · obtain ⟨row, h5, h6, _⟩ := hnew i e
        have := h6 r hr
        exact ⟨row, h5, by omega, fun h => by omega⟩
      · exact ⟨r, by show h2 i = _; rw [(hold i e).1]; exact hr, Nat.le_refl _, fun _ => ⟨RowB.like_refl _, (hold i e).2⟩⟩
  refine ⟨⟨I.hd, I.sz, I.fr.grown hg I.fr.size (by simp), fun i r hr => ?_, fun i j r r' b hr hr' hb hb' => ?_, fun i => rel_mono m (I.tm i)⟩, m⟩
  · by_cases e : new i
    · exact hrow m i r e hr
    · have hr : h2 i = some r := hr
      rw [(hold i e).1] at hr
      rw [(hold i e).2]
      exact (I.rows i r hr).mono m fun b hb => hg.block b (hlt i r b hr hb).2 (by simp)
  · have hr : h2 i = some r := hr
    have hr' : h2 j = some r' := hr'
    by_cases e : new i
    · by_cases e' : new j
      · exact hinj i j b e e' hb hb'
      · rw [(hold j e').1] at hr'
        rw [(hold j e').2] at hb'
        obtain ⟨_, _, _, h5⟩ := hnew i e
        have := h5 b hb
        have := (hlt j r' b hr' hb').2
        omega
    · rw [(hold i e).1] at hr
      rw [(hold i e).2] at hb
      by_cases e' : new j
      · obtain ⟨_, _, _, h5⟩ := hnew j e'
        have := h5 b hb'
        have := (hlt i r b hr hb).2
        omega
      · rw [(hold j e').1] at hr'
        rw [(hold j e').2] at hb'
        exact I.inj i j r r' b hr hr' hb hb'
/-- What came back. -/
def ResRel (w : World) (n0 : Nat) (rd : Nat → Prop) : List RM → List PV → List Value → List Nat → Prop
  | [], [], vs, bs => vs = [] ∧ bs = []
  | .v k :: ms, p :: ps, vs, bs => ∃ v vs', vs = v :: vs' ∧ p.k = k ∧ VR w rd p.k p.v v ∧ ResRel w n0 rd ms ps vs' bs
  | .c k :: ms, ⟨.slice k', xs⟩ :: ps, vs, bs => ∃ v vs', vs = v :: vs' ∧ k' = k ∧ (∃ A, v = .slice A (List.length xs) (List.length xs)) ∧ RC w rd (.slice k') xs [v] ∧ ResRel w n0 rd ms ps vs' bs
  | .o ty k fl :: ms, ⟨.slice k', xs⟩ :: ps, vs, bs => ∃ v vs' bs' vals, vs = v :: vs' ∧ k' = k ∧ bs = (blk v).toList ++ bs' ∧ w.ownsRow n0 ty k'.cells v (List.length xs) vals ∧ RL (RC w rd k') xs vals ∧ isSlf fl v ∧ ResRel w n0 rd ms ps vs' bs'
  | _, _, _, _ => False
def resVal : List Value → Value
  | [v] => v
  | vs => .tuple vs.toArray
def ResR (w w' : World) (ok : Nat → Prop) (outs : List RM) (ps : List PV) (v : Value) : Prop :=
  ∃ vs bs, v = resVal vs ∧ bs.Nodup ∧ ResRel w' w.heap.size (fun b => b < w'.heap.size ∧ (ok b ∨ w.heap.size ≤ b) ∧ b ∉ bs) outs ps vs bs
def capsT : List K → List PV → List AV × List PV
  | [], l => ([], l)
  | _ :: ks, p :: l => (.fe p.k p.v :: (capsT ks l).1, (capsT ks l).2)
  | _ :: _, [] => ([], [])
def CapR (w : World) (ok : Nat → Prop) : List K → List PV → List Value → Prop
  | [], _, c => c = []
  | _ :: ks, p :: l, c => ∃ u c', c = u :: c' ∧ FE w ok p.k p.v u ∧ CapR w ok ks l c'
  | _ :: _, [], _ => False
def PVs (w : World) (ok : Nat → Prop) : List IM → List PV → List Value → Prop
  | [], ps, vs => ps = [] ∧ vs = []
  | .v _ :: is, p :: ps, vs => ∃ v vs', vs = v :: vs' ∧ VR w ok p.k p.v v ∧ PVs w ok is ps vs'
  | .pl _ :: is, p :: ps, vs => ∃ v vs', vs = v :: vs' ∧ FE w ok p.k p.v v ∧ PVs w ok is ps vs'
  | .f g ks :: is, ps, vs => ∃ c vs', vs = .func (.func g) #[] c :: vs' ∧ CapR w ok ks ps c.toList ∧ PVs w ok is (capsT ks ps).2 vs'
  | _, [], _ => False
/-- A callee does what its plain function says. -/
structure SpecOK (P : Program) (f : Nat) (sp : Spec) : Prop where
  enters : (P.funcs[f]?).any (fun fn => fn.name != "runtime.NumGoroutine" && fn.body.isSome) = true
  calls : ∀ x y, sp.f x = some y → ∀ (w : World) (ok : Nat → Prop) (args : Array Value), (∀ b, ok b → b < w.heap.size) → PVs w ok sp.ins (unL (IM.ks sp.ins) x) args.toList →
    Calls P f args w fun e w' => ∃ v, e = .returned v ∧ Below w.heap.size w w' ∧ ResR w w' ok sp.outs (unL (RM.ks sp.outs) y) v
theorem run_enter {f : Nat} {args : Array Value} {w : World} (h : (P.funcs[f]?).any (fun fn => fn.name != "runtime.NumGoroutine" && fn.body.isSome) = true) : (callFunc f args).run P w = .ok (.enter f args) w := by
  cases hf : P.funcs[f]? with
  | none => rw [hf] at h; simp at h
  | some fn =>
    rw [hf] at h
    simp only [Option.any_some, Bool.and_eq_true, bne_iff_ne, ne_eq] at h
    obtain ⟨h1, h2⟩ := h
    obtain ⟨c, hc⟩ := Option.isSome_iff_exists.1 h2
    simp [callFunc, hf, h1, hc]
theorem capOf_gen {ρ : Nat → Value} {a : Act} {w : World} (I : Inv C ρ s a w) {rd' : Nat → Prop} (hrd : ∀ b, Rd C s.h ρ w b → rd' b) (hsub : ∀ id row, h' id = some row → s.h id = some row) {k : K} {v : AV} {x : T k} {u : Value}
    (hids : ∀ id ∈ v.ids, ∀ r, s.h id = some r → ∀ b, blk (ρ id) = some b → rd' b) (h : capOf h' k v = some x) (hv : rel (envOf C ρ s.h w) v u) : FE w rd' k x u := by
  unfold capOf at h
  split at h
  · split at h
    · rename_i e
      subst e
      simp only [castT_rfl, Option.some.injEq] at h
      subst h
      exact FE_mono (fun b hb => ⟨hrd b hb, rfl⟩) hv
    · cases h
  · rename_i id ver off
    split at h
    rotate_left
    · cases h
    rename_i rv wr rt cs hrow
    split at h
    rotate_left
    · cases h
    rename_i hc
    obtain ⟨rfl, hle⟩ := hc
    have hrow := hsub _ _ hrow
    obtain ⟨_, row, e1, e2, e3⟩ := hv
    have e1 : s.h id = some row := e1
    rw [hrow] at e1
    injection e1 with e1
    subst e1
    obtain ⟨b, e4, e5⟩ := e3 rfl
    obtain ⟨b', c, g1, g2, g3, g4⟩ := I.rows id _ hrow
    have e4 : blk (ρ id) = some b := e4
    rw [g1] at e4
    simp only [blk, Option.some.injEq] at e4
    subst e4
    have hrdb : rd' b' := hids id (by simp [AV.ids]) _ hrow b' (by rw [g1]; rfl)
    have hlen := rels_len g4
    have hrel := rels_take k.cells (rels_drop off g4)
    have hl : ((c.toList.drop off).take k.cells).length = k.cells := by rw [List.length_take, List.length_drop]; omega
    have hat : At w b' off ((c.toList.drop off).take k.cells) := by
      intro j u hu
      rw [cell_of_row w b' _ c _ _ g3]
      have hj : j < k.cells := by
        have := (List.getElem?_eq_some_iff.1 hu).1
        rw [hl] at this; exact this
      rw [List.getElem?_take, if_pos hj, List.getElem?_drop] at hu
      simpa using hu
    refine ⟨b', off, (c.toList.drop off).take k.cells, e5, ?_, fun _ => hrdb, hat⟩
    split at h
    · have := (toK_pure (R := envOf C ρ s.h w) (u := .agg ((c.toList.drop off).take k.cells).toArray) h ⟨_, rfl, by simpa using hrel⟩).1
      have := RC_mono (w' := w) (rd' := rd') (fun b hb => ⟨hrd b hb, rfl⟩) this
      simpa [Value.cells] using this
    · rename_i hagg
      rw [cells_one (by simpa using hagg)] at hl hat hrel ⊢
      obtain ⟨v, hv⟩ := List.length_eq_one_iff.1 hl
      rw [hv] at hat hrel ⊢
      split at h
      · rename_i av hav
        have ho := (List.getElem?_eq_some_iff.1 hav).1
        obtain ⟨u', hu1, hu2⟩ := rels_get (i := 0) (a := av) hrel (by rw [List.getElem?_take]; simp [hav])
        simp at hu1
        subst hu1
        have hvr := (toK_pure (R := envOf C ρ s.h w) h hu2).2
        have hvr := VR_mono (w' := w) (rd' := rd') (fun b hb => ⟨hrd b hb, rfl⟩) hvr
        unfold VR at hvr
        rwa [if_neg hagg] at hvr
      · cases h
  · cases h
theorem capsOf_gen {ρ : Nat → Value} {a : Act} {w : World} (I : Inv C ρ s a w) {rd' : Nat → Prop} (hrd : ∀ b, Rd C s.h ρ w b → rd' b) (hsub : ∀ id row, h' id = some row → s.h id = some row) :
    ∀ {ks : List K} {vs : List AV} {l : List PV} {us : List Value} (l' : List PV), (∀ id ∈ AV.idss vs, ∀ r, s.h id = some r → ∀ b, blk (ρ id) = some b → rd' b) → capsOf h' ks vs = some l → rels (envOf C ρ s.h w) vs us → CapR w rd' ks (l ++ l') us ∧ (capsT ks (l ++ l')).2 = l'
  | [], [], l, us, l', hids, h, hr => by
    simp only [capsOf, Option.some.injEq] at h
    subst h
    exact ⟨hr, rfl⟩
  | k :: ks, v :: vs, l, us, l', hids, h, hr => by
    simp only [capsOf] at h
    split at h
    · rename_i x hx
      split at h
      · rename_i l2 hl2
        simp only [Option.some.injEq] at h
        subst h
        obtain ⟨u, us', rfl, h1, h2⟩ := hr
        obtain ⟨g1, g2⟩ := capsOf_gen I hrd hsub l' (fun id hid => hids id (by simp [AV.idss, hid])) hl2 h2
        exact ⟨⟨u, us', rfl, capOf_gen I hrd hsub (fun id hid => hids id (by simp [AV.idss, hid])) hx h1, g1⟩, g2⟩
      · cases h
    · cases h
  | [], v :: vs, l, us, l', hids, h, hr => by simp [capsOf] at h
  | k :: ks, [], l, us, l', hids, h, hr => by simp [capsOf] at h
theorem argsOf_gen {ρ : Nat → Value} {a : Act} {w : World} (I : Inv C ρ s a w) {rd' : Nat → Prop} (hrd : ∀ b, Rd C s.h ρ w b → rd' b) (hsub : ∀ id row, h' id = some row → s.h id = some row) :
    ∀ {is : List IM} {vs : List AV} {l : List PV} {us : List Value}, (∀ id ∈ AV.idss vs, ∀ r, s.h id = some r → ∀ b, blk (ρ id) = some b → rd' b) → argsOf h' is vs = some l → rels (envOf C ρ s.h w) vs us → PVs w rd' is l us := by
  intro is
  induction is with
  | nil =>
    intro vs l us hids h hr
    cases vs with
    | nil =>
      simp only [argsOf, Option.some.injEq] at h
      subst h
      exact ⟨rfl, hr⟩
    | cons v vs => simp [argsOf] at h
  | cons m is ih =>
    intro vs l us hids h hr
    cases vs with
    | nil => cases m <;> simp [argsOf] at h
    | cons v vs =>
      obtain ⟨u, us', rfl, h1, h2⟩ := hr
      have hidv : ∀ id ∈ v.ids, ∀ r, s.h id = some r → ∀ b, blk (ρ id) = some b → rd' b := fun id hid => hids id (by simp [AV.idss, hid])
      have ih' := fun l hl => ih (vs := vs) (l := l) (us := us') (fun id hid => hids id (by simp [AV.idss, hid])) hl h2
      cases m with
      | v k =>
        simp only [argsOf] at h
        split at h
        · rename_i x hx
          split at h
          · rename_i l' hl'
            simp only [Option.some.injEq] at h
            subst h
            exact ⟨u, us', rfl, toK_gen I hrd hidv hsub hx h1, ih' l' hl'⟩
          · cases h
        · cases h
      | pl k =>
        simp only [argsOf] at h
        split at h
        · rename_i x hx
          split at h
          · rename_i l' hl'
            simp only [Option.some.injEq] at h
            subst h
            exact ⟨u, us', rfl, capOf_gen I hrd hsub hidv hx h1, ih' l' hl'⟩
          · cases h
        · cases h
      | f g ks =>
        cases v with
        | fn g' cs =>
          simp only [argsOf] at h
          split at h
          · rename_i hg
            subst hg
            split at h
            · rename_i l1 hl1
              split at h
              · rename_i l2 hl2
                simp only [Option.some.injEq] at h
                subst h
                obtain ⟨c, rfl, hc⟩ := h1
                obtain ⟨g1, g2⟩ := capsOf_gen I hrd hsub l2 (fun id hid => hidv id (by simpa [AV.ids] using hid)) hl1 hc
                exact ⟨c, us', rfl, g1, by rw [g2]; exact ih' l2 hl2⟩
              · cases h
            · cases h
          · cases h
        | _ => simp [argsOf] at h
theorem leafs_unL : ∀ {ks : List K} {l : List PV} {v : Leafs ks}, leafs ks l = some v → unL ks v = l
  | [], [], v, h => rfl
  | [k], [p], v, h => by
    simp only [leafs] at h
    split at h
    · rename_i e
      obtain ⟨pk, pv⟩ := p
      simp only at e
      subst e
      simp only [castT_rfl, Option.some.injEq] at h
      subst h
      rfl
    · cases h
  | k :: k' :: ks, p :: l, v, h => by
    simp only [leafs] at h
    split at h
    · rename_i e
      split at h
      · rename_i y hy
        obtain ⟨pk, pv⟩ := p
        simp only at e
        subst e
        simp only [castT_rfl, Option.some.injEq] at h
        subst h
        simp only [unL]
        rw [leafs_unL hy]
      · cases h
    · cases h
  | [], _ :: _, v, h => by simp [leafs] at h
  | [k], [], v, h => by simp [leafs] at h
  | [k], _ :: _ :: _, v, h => by simp [leafs] at h
  | k :: k' :: ks, [], v, h => by simp [leafs] at h
/-- Rows are frozen. -/
theorem Inv.freezes {ρ : Nat → Value} {a : Act} {w : World} : ∀ (L : List (Nat × Row)) (s : St), Inv C ρ s a w → (∀ p ∈ L, ∃ r, s.h p.1 = some r ∧ p.2 = { r with wr := false }) →
    Inv C ρ ⟨s.t, hupd s.h L⟩ a w ∧ Mono (envOf C ρ s.h w) (envOf C ρ (hupd s.h L) w) ∧
    (∀ i, (∃ p ∈ L, p.1 = i) → ∃ r, hupd s.h L i = some r ∧ r.wr = false) ∧ (∀ i, (hupd s.h L i).map (fun r => (r.ver)) = (s.h i).map (fun r => r.ver)) ∧ (∀ i r, s.h i = some r → r.wr = false → ∃ r', hupd s.h L i = some r' ∧ r'.wr = false)
  | [], s, I, h => ⟨I, Mono.refl _, fun i ⟨p, hp, _⟩ => by simp at hp, fun i => rfl, fun i r h1 h2 => ⟨r, h1, h2⟩⟩
  | p :: L, s, I, h => by
    obtain ⟨r, hr, hp⟩ := h p (by simp)
    obtain ⟨I1, m1⟩ := I.freeze1 hr
    have hs1 : ∀ q ∈ L, ∃ r', (upd s.h p.1 (some { r with wr := false })) q.1 = some r' ∧ q.2 = { r' with wr := false } := by
      intro q hq
      obtain ⟨r', hr', hq'⟩ := h q (List.mem_cons_of_mem _ hq)
      by_cases e : q.1 = p.1
      · rw [e] at hr' ⊢
        rw [hr] at hr'
        injection hr' with hr'
        subst hr'
        exact ⟨_, upd_same _ _ _, hq'⟩
      · exact ⟨r', by rw [upd_other _ _ e]; exact hr', hq'⟩
    obtain ⟨I2, m2, f2, v2, k2⟩ := Inv.freezes L ⟨s.t, upd s.h p.1 (some { r with wr := false })⟩ I1 hs1
    have e : hupd s.h (p :: L) = hupd (upd s.h p.1 (some { r with wr := false })) L := by simp only [hupd]; rw [hp]
    rw [e]
    refine ⟨I2, ⟨fun b hb => ?_, fun i r0 hr0 => ?_⟩, fun i hi => ?_, fun i => ?_, fun i r0 h1 h2 => ?_⟩
    · exact ⟨(m2.rd b (m1.rd b hb).1).1, rfl⟩
    · obtain ⟨r1, a1, a2, a3⟩ := m1.row i r0 hr0
      obtain ⟨r2, b1, b2, b3⟩ := m2.row i r1 a1
      refine ⟨r2, b1, Nat.le_trans a2 b2, fun hv => ?_⟩
      obtain ⟨c1, c2⟩ := a3 (by omega)
      obtain ⟨d1, d2⟩ := b3 (by omega)
      refine ⟨?_, d2.trans c2⟩
      cases h0 : r0.b <;> cases h1 : r1.b <;> cases h2 : r2.b <;> rw [h0, h1] at c1 <;> rw [h1, h2] at d1 <;> simp_all [RowB.like]
    · obtain ⟨q, hq, rfl⟩ := hi
      rcases List.mem_cons.1 hq with rfl | hq
      · exact k2 _ _ (upd_same _ _ _) rfl
      · exact f2 _ ⟨q, hq, rfl⟩
    · rw [v2 i]
      by_cases e' : i = p.1
      · subst e'
        show (upd s.h p.1 _ p.1).map _ = _
        rw [upd_same, hr]; rfl
      · show (upd s.h p.1 _ i).map _ = _
        rw [upd_other _ _ e']
    · by_cases e' : i = p.1
      · subst e'
        exact k2 _ _ (upd_same _ _ _) rfl
      · exact k2 i r0 (by show upd s.h p.1 _ i = _; rw [upd_other _ _ e']; exact h1) h2
end Go.Proofs.Ytiaafpihoikeeaa.Den
