/- What is appended to any bytes: the plain law. -/
import Derived.Test.YtdgolbknbohoeaaPx7
import Derived.Test.YtdgolbknbohoeaaOpenP
import Derived.Test.YtdgolbknbohoeaaCodecM
namespace Go.Proofs.Ytdgolbknbohoeaa.P
open Go.Proofs.YtdgolbknbohoeaaW.PureKit Go.RowKit Go.Proofs.YtdgolbknbohoeaaW.PrintWords Go.Proofs.YtdgolbknbohoeaaW.OpenKd
set_option linter.unusedVariables false
set_option linter.unusedSimpArgs false

theorem Puts_l0 {b : List Int} {l : List S29} (hb : b.length ≤ 4096) (hs : ∀ x, x ∈ l → Small x) (hl : l.length ≤ 100) : ∀ (d : Nat) (i : Int), 0 ≤ i → i + d = l.length → Ev (fun k => tapearchivelaw02_CodecPuts.l0 k b l i) true := by
  intro d
  induction d with
  | zero =>
    intro i h0 h1
    refine Ev.shift 1 ⟨0, fun k _ => ?_⟩
    simp only [tapearchivelaw02_CodecPuts.l0]
    rw [if_neg (by omega)]
  | succ d ih =>
    intro i h0 h1
    obtain ⟨K, h⟩ := ih (i + 1) (by omega) (by omega)
    have hx := hs _ (mem_rd29 h0 (show i < l.length by omega))
    obtain ⟨K1, e1⟩ := putl_ev (b := b) hx (by omega)
    obtain ⟨K2, e2⟩ := define_ev (b := b) hx (by omega)
    refine Ev.shift 1 ⟨K + K1 + K2, fun k hk => ?_⟩
    simp only [tapearchivelaw02_CodecPuts.l0]
    rw [if_pos (by omega), if_pos h0, w64 (by omega) (by omega)]
    have := h k (by omega)
    simp only [e1 k (by omega), e2 k (by omega), Option.bind_some, if_true] at this ⊢
    exact this
theorem pure_CodecPuts : ∀ (l0 : List Int) (l1 : List (S29)), (OkList (OkInt .u8)) l0 → (OkList Ok29) l1 → ∃ k : Nat, tapearchivelaw02_CodecPuts.f k l0 l1 = some true := by
  intro l0 l1 h0 h1
  obtain ⟨K0, e0⟩ := lives_ev
  obtain ⟨K1, e1⟩ := small_ev l1
  by_cases c : (l0.length : Int) > 4096
  · refine ⟨K0 + 1, ?_⟩
    simp only [tapearchivelaw02_CodecPuts.f, tapearchivelaw02_CodecPuts.j0, e0 (K0 + 1) (by omega), Option.bind_some, if_true, if_pos c]
  · by_cases s : l1.length ≤ 100 ∧ ∀ x, x ∈ l1 → x.f3.size ≤ 4096
    · obtain ⟨K2, e2⟩ := Puts_l0 (b := l0) (l := l1) (by omega) (fun x hx => ⟨h1.mem hx, s.2 x hx⟩) s.1 l1.length 0 (by omega) (by omega)
      refine ⟨K0 + K1 + K2 + 1, ?_⟩
      generalize hk : K0 + K1 + K2 = k
      have := e2 k (by omega)
      simp only [tapearchivelaw02_CodecPuts.f, tapearchivelaw02_CodecPuts.j0, e0 (k + 1) (by omega), e1 (k + 1) (by omega), Option.bind_some, if_true, if_neg c, decide_eq_true s, Bool.not_true, Bool.false_eq_true, if_false] at this ⊢
      exact this
    · refine ⟨K0 + K1 + 1, ?_⟩
      generalize hk : K0 + K1 = k
      simp only [tapearchivelaw02_CodecPuts.f, tapearchivelaw02_CodecPuts.j0, e0 (k + 1) (by omega), e1 (k + 1) (by omega), Option.bind_some, if_true, if_neg c, decide_eq_false s, Bool.not_false]

end Go.Proofs.Ytdgolbknbohoeaa.P
