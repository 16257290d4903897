/- The bytes of a value without the last ones are too short: the plain law. -/
import Derived.Test.YtdgolbknbohoeaaPx14
import Derived.Test.YtdgolbknbohoeaaOpenP
import Derived.Test.YtdgolbknbohoeaaCodecM
namespace Go.Proofs.Ytdgolbknbohoeaa.P
open Go.Proofs.YtdgolbknbohoeaaW.PureKit Go.RowKit Go.Proofs.YtdgolbknbohoeaaW.PrintWords Go.Proofs.YtdgolbknbohoeaaW.OpenKd
set_option linter.unusedVariables false
set_option linter.unusedSimpArgs false

theorem Pre_j0 {x : S29} {a : Int} (h : Small x) (h0 : 0 ≤ a) (h1 : a < (encV x).length) : Ev (fun k => tapearchivelaw02_CodecPrefixes.j0 k a (encV x) false x.f0 x.f1 x.f2 x.f3 x.f4) true := by
  have hb := (encV_byts x).take a.toNat
  have hlen := (encV_len h).2
  have hl : (((encV x).take a.toNat).length : Int) ≤ 4611686018427387000 := by rw [List.length_take]; omega
  obtain ⟨⟨g0, g1, g2, g3, _⟩, hs⟩ := h
  have hu := g1.u64; have hn := g2.i64
  by_cases c0 : x.f0 = 0
  · obtain ⟨K, e⟩ := Uint_ev (a := 0) hb hl
    have ee : uintS ((encV x).take a.toNat) 0 = (0, 0, 2) := by
      unfold encV at h1 ⊢
      rw [if_pos c0] at h1 ⊢
      have := grp_cut (n := x.f1.toNat) (cut := a.toNat) (rest := []) (by omega) (by omega)
      rwa [List.append_nil] at this
    refine Ev.shift 1 ⟨K, fun k hk => ?_⟩
    simp only [tapearchivelaw02_CodecPrefixes.j0, Bool.false_eq_true, if_false, if_pos h0, if_pos (show a ≤ (encV x).length by omega), Option.bind_some, if_pos c0, e k (by omega), ee]
    rfl
  · by_cases c1 : x.f0 = 1
    · obtain ⟨K, e⟩ := Int_ev (a := 0) hb hl
      have hc := codeN_b hn.1 hn.2
      have ee : uintS ((encV x).take a.toNat) 0 = (0, 0, 2) := by
        unfold encV at h1 ⊢
        rw [if_neg c0, if_pos c1] at h1 ⊢
        have := grp_cut (n := (codeN x.f2).toNat) (cut := a.toNat) (rest := []) (by omega) (by omega)
        rwa [List.append_nil] at this
      unfold intS at e
      rw [ee] at e
      refine Ev.shift 1 ⟨K, fun k hk => ?_⟩
      simp only [tapearchivelaw02_CodecPrefixes.j0, Bool.false_eq_true, if_false, if_pos h0, if_pos (show a ≤ (encV x).length by omega), Option.bind_some, if_neg c0, if_pos c1, e k (by omega)]
      rfl
    · by_cases c2 : x.f0 = 2
      · obtain ⟨K, e⟩ := Text_ev (a := 0) (most := x.f3.size) hb hl (by omega)
        have ee : (textS ((encV x).take a.toNat) 0 x.f3.size).2.2 = 2 := by
          have hv : encV x = grp x.f3.size ++ bytesOf x.f3 := by unfold encV; rw [if_neg c0, if_neg c1, if_pos c2]
          rw [hv] at h1 ⊢
          rw [List.length_append, bytesOf_length] at h1
          by_cases d : a.toNat < (grp x.f3.size).length
          · unfold textS
            rw [grp_cut (by omega) d]
            rfl
          · have hq : (grp x.f3.size ++ bytesOf x.f3).take a.toNat = [] ++ (grp x.f3.size ++ (bytesOf x.f3).take (a.toNat - (grp x.f3.size).length)) := by
              rw [List.take_append, List.take_of_length_le (by omega)]; rfl
            have hz : (([] ++ (grp x.f3.size ++ (bytesOf x.f3).take (a.toNat - (grp x.f3.size).length)) : List Int).length : Int) = a := by
              rw [← hq, List.length_take, List.length_append, bytesOf_length]; omega
            have hub : uintS ([] ++ (grp x.f3.size ++ (bytesOf x.f3).take (a.toNat - (grp x.f3.size).length))) 0 = ((x.f3.size : Int), ((0 : Nat) : Int) + (grp x.f3.size).length, 0) := uintS_back (pre := []) (by omega)
            unfold textS
            rw [hq, hub]
            simp only [hz, if_true]
            rw [if_neg (by omega), if_pos (by omega)]
        generalize textS ((encV x).take a.toNat) 0 x.f3.size = t at *
        refine Ev.shift 1 ⟨K, fun k hk => ?_⟩
        simp only [tapearchivelaw02_CodecPrefixes.j0, Bool.false_eq_true, if_false, if_pos h0, if_pos (show a ≤ (encV x).length by omega), Option.bind_some, if_neg c0, if_neg c1, if_pos c2, e k (by omega), ee]
        rfl
      · obtain ⟨K, e⟩ := Bool_ev (a := 0) hl
        have ee : (encV x).take a.toNat = [] := by
          unfold encV at h1 ⊢
          rw [if_neg c0, if_neg c1, if_neg c2] at h1 ⊢
          rw [List.length_singleton] at h1
          rw [show a.toNat = 0 by omega]; rfl
        rw [ee] at e
        refine Ev.shift 1 ⟨K, fun k hk => ?_⟩
        have e := e k (by omega)
        simp only [tapearchivelaw02_CodecPrefixes.j0, Bool.false_eq_true, if_false, if_pos h0, if_pos (show a ≤ (encV x).length by omega), Option.bind_some, if_neg c0, if_neg c1, if_neg c2, ee] at e ⊢
        rw [e]
        rfl
theorem pure_CodecPrefixes : ∀ (x0 : S29) (a1 : Int), Ok29 x0 → (OkInt .i64) a1 → ∃ k : Nat, tapearchivelaw02_CodecPrefixes.f k x0.f0 x0.f1 x0.f2 x0.f3 x0.f4 a1 = some true := by
  intro x0 a1 h0 h1
  obtain ⟨K0, e0⟩ := lives_ev
  obtain ⟨K1, e1⟩ := small_ev [x0]
  by_cases s : x0.f3.size ≤ 4096
  · have hx : Small x0 := ⟨h0, s⟩
    have s' : ([x0] : List S29).length ≤ 100 ∧ ∀ x, x ∈ [x0] → x.f3.size ≤ 4096 := ⟨by simp, fun x hx => by simp at hx; subst hx; exact s⟩
    obtain ⟨K2, e2⟩ := putl_ev (b := []) hx (by simp)
    by_cases c : a1 < 0
    · refine ⟨K0 + K1 + K2 + 1, ?_⟩
      generalize hk : K0 + K1 + K2 = k
      simp only [tapearchivelaw02_CodecPrefixes.f, tapearchivelaw02_CodecPrefixes.j0, e0 (k + 1) (by omega), e1 (k + 1) (by omega), e2 (k + 1) (by omega), Option.bind_some, if_true, decide_eq_true s', if_pos c]
    · by_cases d : a1 ≥ (encV x0).length
      · refine ⟨K0 + K1 + K2 + 1, ?_⟩
        generalize hk : K0 + K1 + K2 = k
        simp only [tapearchivelaw02_CodecPrefixes.f, tapearchivelaw02_CodecPrefixes.j0, e0 (k + 1) (by omega), e1 (k + 1) (by omega), e2 (k + 1) (by omega), Option.bind_some, if_true, decide_eq_true s', if_neg c, List.nil_append, decide_eq_true d]
      · obtain ⟨K3, e3⟩ := Pre_j0 (a := a1) hx (by omega) (by omega)
        refine ⟨K0 + K1 + K2 + K3, ?_⟩
        generalize hk : K0 + K1 + K2 + K3 = k
        have e3 := e3 k (by omega)
        simp only [tapearchivelaw02_CodecPrefixes.f, e0 k (by omega), e1 k (by omega), e2 k (by omega), Option.bind_some, if_true, decide_eq_true s', if_neg c, List.nil_append, decide_eq_false d] at e3 ⊢
        exact e3
  · have s' : ¬ (([x0] : List S29).length ≤ 100 ∧ ∀ x, x ∈ [x0] → x.f3.size ≤ 4096) := fun h => s (h.2 x0 (by simp))
    refine ⟨K0 + K1, ?_⟩
    generalize hk : K0 + K1 = k
    simp only [tapearchivelaw02_CodecPrefixes.f, e0 k (by omega), e1 k (by omega), Option.bind_some, if_true, decide_eq_false s', Bool.false_eq_true, if_false]

end Go.Proofs.Ytdgolbknbohoeaa.P
