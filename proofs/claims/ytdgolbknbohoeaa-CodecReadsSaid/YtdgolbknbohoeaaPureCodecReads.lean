/- What is read at any offset of any bytes, or the error: the plain law. -/
import Derived.Test.YtdgolbknbohoeaaPx10
import Derived.Test.YtdgolbknbohoeaaOpenP
import Derived.Test.YtdgolbknbohoeaaCodecM
namespace Go.Proofs.Ytdgolbknbohoeaa.P
open Go.Proofs.YtdgolbknbohoeaaW.PureKit Go.RowKit Go.Proofs.YtdgolbknbohoeaaW.PrintWords Go.Proofs.YtdgolbknbohoeaaW.OpenKd
set_option linter.unusedVariables false
set_option linter.unusedSimpArgs false

theorem pure_CodecReads : ∀ (l0 : List Int) (a1 : Int) (a2 : Int), (OkList (OkInt .u8)) l0 → (OkInt .i64) a1 → (OkInt .i64) a2 → ∃ k : Nat, tapearchivelaw02_CodecReads.f k l0 a1 a2 = some true := by
  intro l0 a1 a2 h0 h1 h2
  have hb := byts_of h0
  have hm := h2.i64
  obtain ⟨K0, e0⟩ := lives_ev
  by_cases c : (l0.length : Int) > 4096
  · refine ⟨K0, ?_⟩
    simp only [tapearchivelaw02_CodecReads.f, e0 K0 (by omega), Option.bind_some, if_true, if_pos c]
  · have hl : (l0.length : Int) ≤ 4611686018427387000 := by omega
    obtain ⟨K1, e1⟩ := Uint_ev (a := a1) hb hl
    obtain ⟨K2, e2⟩ := rUint_ev (a := a1) hb hl
    obtain ⟨K3, e3⟩ := Int_ev (a := a1) hb hl
    obtain ⟨K4, e4⟩ := rInt_ev (a := a1) hb hl
    obtain ⟨K5, e5⟩ := Text_ev (a := a1) (most := a2) hb hl (by omega)
    obtain ⟨K6, e6⟩ := rText_ev (a := a1) (most := a2) hb hl (by omega)
    obtain ⟨K7, e7⟩ := Bool_ev (a := a1) hl
    obtain ⟨K8, e8⟩ := rBool_ev (a := a1) hl
    refine ⟨K0 + K1 + K2 + K3 + K4 + K5 + K6 + K7 + K8 + 3, ?_⟩
    generalize hk : K0 + K1 + K2 + K3 + K4 + K5 + K6 + K7 + K8 = k
    simp only [tapearchivelaw02_CodecReads.f, tapearchivelaw02_CodecReads.j0, tapearchivelaw02_CodecReads.j1, tapearchivelaw02_CodecReads.j2, e0 (k + 3) (by omega), e1 (k + 3) (by omega), e2 (k + 3) (by omega), e3 (k + 2) (by omega), e4 (k + 2) (by omega), e5 (k + 1) (by omega), e6 (k + 1) (by omega), e7 k (by omega), e8 k (by omega), Option.bind_some, if_true, if_neg c, bne_self_eq_false, Bool.false_eq_true, if_false, beq_self_eq_true]

end Go.Proofs.Ytdgolbknbohoeaa.P
