/- Regions. -/
import Derived.Test.YtkgjchmfiohciaaDenS18
namespace Go.Proofs.Ytkgjchmfiohciaa.Den
open Go.RowKit
set_option linter.unusedVariables false
set_option linter.unusedSimpArgs false
variable {P : Program} {C : Cx} {outs : List RM} {e : Env outs}
structure Left (ops : Array Oper) (cl : List (Done × Eff)) (listed : Array Bool) : Prop where
  free : cl.Pairwise (Free ops)
  lt : cl.Pairwise fun x y => x.1.i < y.1.i
  op : ∀ x ∈ cl, ops[x.1.i]? = some x.1.o
  edge : ∀ x ∈ cl, ∀ y ∈ x.1.o.after, Region.binds .any y = true → y.on < x.1.i
  size : listed.size = ops.size
  un : ∀ i, i < ops.size → (listed.getD i true = false ↔ ∃ x ∈ cl, x.1.i = i)
  closed : ∀ j, listed.getD j false = true → ∀ o, ops[j]? = some o → ∀ y ∈ o.after, Region.binds .any y = true → listed.getD y.on false = true
theorem anc_listed {ops : Array Oper} {listed : Array Bool} (hc : ∀ j, listed.getD j false = true → ∀ o, ops[j]? = some o → ∀ y ∈ o.after, Region.binds .any y = true → listed.getD y.on false = true) :
    ∀ (n : Nat) (o : Oper) (i : Nat), (∀ y ∈ o.after, Region.binds .any y = true → listed.getD y.on false = true) → anc ops n o i = true → listed.getD i false = true
  | 0, o, i, _, h => by simp [anc] at h
  | n + 1, o, i, ho, h => by
    unfold anc at h
    obtain ⟨z, hz, hz2⟩ := Array.any_eq_true'.1 h
    simp only [Bool.and_eq_true, Bool.or_eq_true] at hz2
    have hl := ho z hz hz2.1
    rcases hz2.2 with h | h
    · rw [← Nat.eq_of_beq_eq_true h]; exact hl
    · split at h
      · rename_i p hp
        exact anc_listed hc n p i (hc z.on hl p hp) h
      · cases h
theorem ready_iff {ops : Array Oper} {listed : Array Bool} {i : Nat} : i ∈ Region.ready .any ops listed ↔ i < ops.size ∧ listed.getD i true = false ∧ ∃ o, ops[i]? = some o ∧ ∀ y ∈ o.after, Region.binds .any y = true → listed.getD y.on false = true := by
  unfold Region.ready
  rw [List.mem_filter, List.mem_range]
  constructor
  · rintro ⟨h1, h2⟩
    simp only [Bool.and_eq_true, Bool.not_eq_true'] at h2
    obtain ⟨h2, h3⟩ := h2
    refine ⟨h1, h2, ?_⟩
    cases ho : ops[i]? with
    | none => rw [ho] at h3; simp at h3
    | some o =>
      rw [ho] at h3
      refine ⟨o, rfl, fun y hy hb => ?_⟩
      have h3' : (o.after.all fun e => !Region.binds .any e || listed.getD e.on false) = true := h3
      have := Array.all_eq_true'.1 h3' y hy
      rw [hb] at this
      exact this
  · rintro ⟨h1, h2, o, ho, h3⟩
    refine ⟨h1, ?_⟩
    rw [h2, ho]
    simp only [Bool.not_false, Bool.true_and, Option.map_some, Option.getD_some]
    refine Array.all_eq_true'.2 fun y hy => ?_
    cases hb : Region.binds .any y with
    | false => rfl
    | true => rw [h3 y hy hb]; rfl
theorem getD_false {listed : Array Bool} {i : Nat} (h : i < listed.size) : listed.getD i false = listed.getD i true := by
  simp [Array.getD, h]
theorem chain_any (he : EnvOK P C e) {ops : Array Oper} {s' : St} {Q : Exit → Act → World → Prop} (hQ : ∀ ρ' a' w', Inv C ρ' s' a' w' → Q .normal a' w') :
    ∀ (fuel : Nat) (cl : List (Done × Eff)) (s : St) (listed : Array Bool), cl.length ≤ fuel → Chain e ops s cl s' → Left ops cl listed → ∀ ρ a w, Inv C ρ s a w → wpAny P .any ops Q fuel listed a w := by
  intro fuel
  have empty : ∀ (listed : Array Bool), Left ops [] listed → Region.ready .any ops listed = [] := by
    intro listed L
    refine List.eq_nil_iff_forall_not_mem.2 fun i hi => ?_
    obtain ⟨h1, h2, _⟩ := ready_iff.1 hi
    obtain ⟨x, hx, _⟩ := (L.un i h1).1 h2
    simp at hx
  induction fuel with
  | zero =>
    intro cl s listed hl hc L ρ a w I
    have : cl = [] := List.eq_nil_of_length_eq_zero (by omega)
    subst this
    cases hc
    exact ⟨empty listed L, hQ ρ a w I⟩
  | succ fuel ih =>
    intro cl s listed hl hc L ρ a w I
    refine ⟨fun hr => ?_, fun i hi => ?_⟩
    · cases cl with
      | nil => cases hc; exact hQ ρ a w I
      | cons x cl =>
        exfalso
        have hxo := L.op x (by simp)
        have hxs : x.1.i < ops.size := (Array.getElem?_eq_some_iff.1 hxo).1
        have hmem : x.1.i ∈ Region.ready .any ops listed := by
          refine ready_iff.2 ⟨hxs, (L.un _ hxs).2 ⟨x, by simp, rfl⟩, x.1.o, hxo, fun y hy hb => ?_⟩
          have hlt := L.edge x (by simp) y hy hb
          rw [getD_false (by rw [L.size]; omega)]
          cases hg : listed.getD y.on true with
          | true => rfl
          | false =>
            exfalso
            obtain ⟨z, hz, hzi⟩ := (L.un y.on (by omega)).1 hg
            rcases List.mem_cons.1 hz with rfl | hz
            · omega
            · have := (List.pairwise_cons.1 L.lt).1 z hz
              omega
        rw [hr] at hmem
        simp at hmem
    · obtain ⟨h1, h2, o, ho, h3⟩ := ready_iff.1 hi
      obtain ⟨x, hx, hxi⟩ := (L.un i h1).1 h2
      subst hxi
      obtain ⟨l1, l2, rfl⟩ := List.append_of_mem hx
      have hxo := L.op x (by simp)
      rw [hxo] at ho
      injection ho with ho
      subst ho
      have hp := List.pairwise_append.1 L.free
      have hfree : ∀ y ∈ l1, indep ops y.1 x.1 = true := by
        intro y hy
        rcases hp.2.2 y hy x (by simp) with hd | hd
        · exfalso
          have := anc_listed L.closed 5 x.1.o y.1.i h3 hd
          have hys : y.1.i < ops.size := (Array.getElem?_eq_some_iff.1 (L.op y (by simp [hy]))).1
          rw [getD_false (by rw [L.size]; exact hys)] at this
          rw [(L.un _ hys).2 ⟨y, by simp [hy], rfl⟩] at this
          cases this
        · exact hd
      have hf := hc.front hfree
      obtain ⟨d, E⟩ := x
      cases hf with
      | cons hs hr =>
        unfold wpOp
        have hxo' : ops[d.i]? = some d.o := hxo
        rw [hxo']
        simp only
        have hltp := List.pairwise_append.1 L.lt
        have hL : Left ops (l1 ++ l2) (listed.setIfInBounds d.i true) := by
          have sub : ∀ y, y ∈ l1 ++ l2 → y ∈ l1 ++ (d, E) :: l2 := by
            intro y hy
            rcases List.mem_append.1 hy with hy | hy <;> simp [hy]
          have sl : (l1 ++ l2).Sublist (l1 ++ (d, E) :: l2) := List.Sublist.append (List.Sublist.refl _) (List.sublist_cons_self _ _)
          refine ⟨L.free.sublist sl, L.lt.sublist sl, fun y hy => L.op y (sub y hy), fun y hy => L.edge y (sub y hy), by simp [L.size], fun j hj => ?_, ?closed⟩
          case closed =>
            have mono : ∀ q, listed.getD q false = true → (listed.setIfInBounds d.i true).getD q false = true := by
              intro q hq
              by_cases e : q = d.i
              · subst e
                rw [Array.getD_eq_getD_getElem?, Array.getElem?_setIfInBounds_self_of_lt (by rw [L.size]; exact h1)]
                rfl
              · rw [Array.getD_eq_getD_getElem?, Array.getElem?_setIfInBounds_ne (fun h => e h.symm), ← Array.getD_eq_getD_getElem?]
                exact hq
            intro j hj o' ho' y hy hb
            by_cases e : j = d.i
            · subst e
              rw [hxo'] at ho'
              injection ho' with ho'
              subst ho'
              exact mono _ (h3 y hy hb)
            · rw [Array.getD_eq_getD_getElem?, Array.getElem?_setIfInBounds_ne (fun h => e h.symm), ← Array.getD_eq_getD_getElem?] at hj
              exact mono _ (L.closed j hj o' ho' y hy hb)
          by_cases e : j = d.i
          · subst e
            have : (listed.setIfInBounds d.i true).getD d.i true = true := by
              rw [Array.getD_eq_getD_getElem?, Array.getElem?_setIfInBounds_self_of_lt (by rw [L.size]; exact hj)]
              rfl
            rw [this]
            constructor
            · intro h; cases h
            · rintro ⟨y, hy, hyi⟩
              exfalso
              rcases List.mem_append.1 hy with hy | hy
              · have h5 := hltp.2.2 y hy (d, E) (by simp)
                simp only at h5
                omega
              · have h5 := (List.pairwise_cons.1 hltp.2.1).1 y hy
                simp only at h5
                omega
          · rw [Array.getD_eq_getD_getElem?, Array.getElem?_setIfInBounds_ne (fun h => e h.symm), ← Array.getD_eq_getD_getElem?, L.un j hj]
            constructor
            · rintro ⟨y, hy, rfl⟩
              refine ⟨y, ?_, rfl⟩
              rcases List.mem_append.1 hy with hy | hy
              · simp [hy]
              · rcases List.mem_cons.1 hy with rfl | hy
                · exact absurd rfl e
                · simp [hy]
            · rintro ⟨y, hy, rfl⟩
              exact ⟨y, sub y hy, rfl⟩
        have := opG_step he hs.sem ρ a w I (wpAny P .any ops Q fuel (listed.setIfInBounds d.i true)) Q (fun ρ' a' w' I' => ih (l1 ++ l2) _ _ (by simp only [List.length_append, List.length_cons] at hl ⊢; omega) hr hL ρ' a' w' I')
        split
        · rename_i hw; rw [if_pos hw] at this; exact .inl this
        · rename_i hw; rw [if_neg hw] at this; exact this
theorem Inv.drew {ρ : Nat → Value} {s : St} {a : Act} {w : World} (I : Inv C ρ s a w) : Inv C ρ s a { w with drawn := w.drawn + 1 } :=
  (I.grow (w' := { w with drawn := w.drawn + 1 }) ⟨rfl, rfl, rfl, Nat.le_refl _, fun _ _ _ => rfl⟩).1
/-- A region. -/
theorem region_ok (he : EnvOK P C e) (hmix : P.follows .mixedOrders = true) {ops : Array Oper} {dr : Bool} {id : Nat} {X : Type} {c : St → Option X} {r : X} {s : St}
    (h : (if dr = true then opsD e ops 0 ops.toList [] s c else opsE e ops ops.toList s c) = some r) :
    ∃ s', c s' = some r ∧ ∀ ρ a w, Inv C ρ s a w → ∀ Q : Exit → Act → World → Prop, (∀ ρ' a' w', Inv C ρ' s' a' w' → Q .normal a' w') → (Code.region id ops dr).wp P Q a w := by
  cases dr with
  | false =>
    simp only [Bool.false_eq_true, if_false] at h
    obtain ⟨s', h1, h2⟩ := opsE_ok he ops.toList (List.range ops.size) s (range_ops ops) h
    exact ⟨s', h1, fun ρ a w I Q hQ => wp_region (h2 ρ a w I Q hQ)⟩
  | true =>
    simp only [if_true] at h
    obtain ⟨s', cl, h1, h2, h3, h4, _, h6⟩ := opsD_chain ops.toList 0 [] s (fun j => by simp) h
    refine ⟨s', h1, fun ρ a w I Q hQ => wp_region_any hmix ?_⟩
    have hlen : cl.length = ops.size := by
      have := congrArg List.length h3
      simpa using this
    have hget : ∀ (j : Nat) (x : Done × Eff), cl[j]? = some x → x.1.i = j ∧ ops[j]? = some x.1.o := by
      intro j x hx
      have := congrArg (·[j]?) h3
      simp only [List.getElem?_map, hx, Option.map_some, List.getElem?_zipWith] at this
      have hj : j < ops.size := by rw [← hlen]; exact (List.getElem?_eq_some_iff.1 hx).1
      simp [hj] at this
      exact ⟨this.1, by simp [hj, this.2]⟩
    refine chain_any he hQ ops.size cl s _ (by omega) h2 ⟨h4, ?_, ?_, h6, by simp, ?_, ?_⟩ ρ a _ I.drew
    · refine List.pairwise_iff_getElem.2 fun i j hi hj hij => ?_
      have a1 := (hget i _ (List.getElem?_eq_getElem hi)).1
      have a2 := (hget j _ (List.getElem?_eq_getElem hj)).1
      omega
    · intro x hx
      obtain ⟨j, hj, rfl⟩ := List.getElem_of_mem hx
      obtain ⟨a1, a2⟩ := hget j _ (List.getElem?_eq_getElem hj)
      rw [a1]; exact a2
    · intro i hi
      have : (Array.replicate ops.size false).getD i true = false := by simp [Array.getD, hi]
      rw [this]
      simp only [true_iff]
      have hi' : i < cl.length := by omega
      exact ⟨cl[i], List.getElem_mem hi', (hget i _ (List.getElem?_eq_getElem hi')).1⟩
    · intro j hj
      have : (Array.replicate ops.size false).getD j false = false := by
        rw [Array.getD_eq_getD_getElem?, Array.getElem?_replicate]
        split <;> rfl
      rw [this] at hj
      cases hj
end Go.Proofs.Ytkgjchmfiohciaa.Den
