/- Any values that were appended one after another are read one after another: the plain law. -/
import Derived.Test.YtdgolbknbohoeaaPx12
import Derived.Test.YtdgolbknbohoeaaOpenP
import Derived.Test.YtdgolbknbohoeaaCodecM
namespace Go.Proofs.Ytdgolbknbohoeaa.P
open Go.Proofs.YtdgolbknbohoeaaW.PureKit Go.RowKit Go.Proofs.YtdgolbknbohoeaaW.PrintWords Go.Proofs.YtdgolbknbohoeaaW.OpenKd
set_option linter.unusedVariables false
set_option linter.unusedSimpArgs false

theorem RT_l1 {l : List S29} {end_ : Int} {x2 : List Int} (hs : ∀ x, x ∈ l → Small x) (hl : l.length ≤ 100) : ∀ (d : Nat) (i : Int) (pre : List Int), 0 ≤ i → i + d = l.length → Byts (pre ++ (encL (l.drop i.toNat) ++ x2)) → ((pre ++ (encL (l.drop i.toNat) ++ x2)).length : Int) ≤ 4611686018427387000 → end_ = pre.length + (encL (l.drop i.toNat)).length → Ev (fun k => tapearchivelaw02_CodecRoundTrip.l1 k l (pre ++ (encL (l.drop i.toNat) ++ x2)) end_ pre.length i) true := by
  intro d
  induction d with
  | zero =>
    intro i pre h0 h1 hb hn he
    refine Ev.shift 1 ⟨0, fun k _ => ?_⟩
    rw [List.drop_of_length_le (by omega), encL_nil] at he
    simp only [tapearchivelaw02_CodecRoundTrip.l1]
    rw [if_neg (by omega), he]
    simp
  | succ d ih =>
    intro i pre h0 h1 hb hn he
    have hx := hs _ (mem_rd29 h0 (show i < l.length by omega))
    have hp := (encV_len hx).1
    rw [drop_rd29 h0 (by omega), encL_cons] at hb hn he ⊢
    have ea : pre ++ (encV (rd_T29 l i) ++ encL (l.drop (i + 1).toNat) ++ x2) = pre ++ (encV (rd_T29 l i) ++ (encL (l.drop (i + 1).toNat) ++ x2)) := by simp only [List.append_assoc]
    have eb : pre ++ (encV (rd_T29 l i) ++ (encL (l.drop (i + 1).toNat) ++ x2)) = (pre ++ encV (rd_T29 l i)) ++ (encL (l.drop (i + 1).toNat) ++ x2) := by simp only [List.append_assoc]
    rw [ea] at hb hn ⊢
    obtain ⟨K1, e1⟩ := read_ev (pre := pre) (rest := encL (l.drop (i + 1).toNat) ++ x2) hx hb hn
    rw [eb] at hb hn e1 ⊢
    obtain ⟨K, h⟩ := ih (i + 1) (pre ++ encV (rd_T29 l i)) (by omega) (by omega) hb hn (by simp only [List.length_append] at he ⊢; omega)
    refine Ev.shift 1 ⟨K + K1, fun k hk => ?_⟩
    have h := h k (by omega)
    have e1 := e1 k (by omega)
    simp only [List.length_append, Int.natCast_add] at h e1
    simp only [tapearchivelaw02_CodecRoundTrip.l1]
    rw [if_pos (by omega), if_pos h0, e1, w64 (by omega) (by omega)]
    simp only [Option.bind_some, if_true]
    rw [if_neg (by omega)]
    exact h
theorem RT_l0 {l : List S29} {x0 x2 : List Int} (hs : ∀ x, x ∈ l → Small x) (hl : l.length ≤ 100) (h2 : x2.length ≤ 4096) : ∀ (d : Nat) (i : Int) (acc : List Int), 0 ≤ i → i + d = l.length → acc.length + 4106 * d ≤ 100000000 → Ev (fun k => tapearchivelaw02_CodecRoundTrip.l1 k l ((acc ++ encL (l.drop i.toNat)) ++ x2) (acc ++ encL (l.drop i.toNat)).length x0.length 0) true → Ev (fun k => tapearchivelaw02_CodecRoundTrip.l0 k x0 l x2 acc i) true := by
  intro d
  induction d with
  | zero =>
    intro i acc h0 h1 hn hv
    rw [List.drop_of_length_le (by omega), encL_nil, List.append_nil] at hv
    obtain ⟨K, hv⟩ := hv
    refine Ev.shift 1 ⟨K, fun k hk => ?_⟩
    have hv := hv k hk
    simp only [tapearchivelaw02_CodecRoundTrip.l0]
    rw [if_neg (by omega)]
    simp only [Option.bind_some, List.nil_append, List.length_nil]
    rw [if_pos (by omega), if_pos (by omega)]
    exact hv
  | succ d ih =>
    intro i acc h0 h1 hn hv
    have hx := hs _ (mem_rd29 h0 (show i < l.length by omega))
    have hp := (encV_len hx).2
    rw [drop_rd29 h0 (by omega), encL_cons, ← List.append_assoc] at hv
    obtain ⟨K, h⟩ := ih (i + 1) (acc ++ encV (rd_T29 l i)) (by omega) (by omega) (by rw [List.length_append]; omega) hv
    obtain ⟨K1, e1⟩ := putl_ev (b := acc) hx (by omega)
    refine Ev.shift 1 ⟨K + K1, fun k hk => ?_⟩
    have h := h k (by omega)
    simp only [tapearchivelaw02_CodecRoundTrip.l0]
    rw [if_pos (by omega), if_pos h0, w64 (by omega) (by omega)]
    simp only [e1 k (by omega), Option.bind_some]
    exact h
theorem pure_CodecRoundTrip : ∀ (l0 : List Int) (l1 : List (S29)) (l2 : List Int), (OkList (OkInt .u8)) l0 → (OkList Ok29) l1 → (OkList (OkInt .u8)) l2 → ∃ k : Nat, tapearchivelaw02_CodecRoundTrip.f k l0 l1 l2 = some true := by
  intro l0 l1 l2 h0 h1 h2
  obtain ⟨K0, e0⟩ := lives_ev
  obtain ⟨K1, e1⟩ := small_ev l1
  by_cases c : (l0.length : Int) > 4096
  · refine ⟨K0 + 1, ?_⟩
    simp only [tapearchivelaw02_CodecRoundTrip.f, tapearchivelaw02_CodecRoundTrip.j0, e0 (K0 + 1) (by omega), Option.bind_some, if_true, if_pos c]
  · by_cases c2 : (l2.length : Int) > 4096
    · refine ⟨K0 + 1, ?_⟩
      simp only [tapearchivelaw02_CodecRoundTrip.f, tapearchivelaw02_CodecRoundTrip.j0, e0 (K0 + 1) (by omega), Option.bind_some, if_true, if_neg c, if_pos c2]
    · by_cases s : l1.length ≤ 100 ∧ ∀ x, x ∈ l1 → x.f3.size ≤ 4096
      · have hs : ∀ x, x ∈ l1 → Small x := fun x hx => ⟨h1.mem hx, s.2 x hx⟩
        have he := encL_len l1 hs
        have hv := RT_l1 (l := l1) (end_ := (l0 ++ encL l1).length) (x2 := l2) hs s.1 l1.length 0 l0 (by omega) (by omega) ((byts_of h0).append ((encL_byts _).append (byts_of h2)))
          (by simp only [List.length_append, Int.toNat_zero, List.drop_zero]; omega) (by simp only [List.length_append, Int.toNat_zero, List.drop_zero]; omega)
        rw [Int.toNat_zero, List.drop_zero, ← List.append_assoc] at hv
        obtain ⟨K2, e2⟩ := RT_l0 (x0 := l0) (x2 := l2) hs s.1 (by omega) l1.length 0 l0 (by omega) (by omega) (by omega) (by rw [Int.toNat_zero, List.drop_zero]; exact hv)
        refine ⟨K0 + K1 + K2 + 1, ?_⟩
        generalize hk : K0 + K1 + K2 = k
        have := e2 k (by omega)
        simp only [tapearchivelaw02_CodecRoundTrip.f, tapearchivelaw02_CodecRoundTrip.j0, e0 (k + 1) (by omega), e1 (k + 1) (by omega), Option.bind_some, if_true, if_neg c, if_neg c2, decide_eq_true s, Bool.not_true, Bool.false_eq_true, if_false, List.nil_append, List.length_nil] at this ⊢
        rw [if_pos (by omega)]
        exact this
      · refine ⟨K0 + K1 + 1, ?_⟩
        generalize hk : K0 + K1 = k
        simp only [tapearchivelaw02_CodecRoundTrip.f, tapearchivelaw02_CodecRoundTrip.j0, e0 (k + 1) (by omega), e1 (k + 1) (by omega), Option.bind_some, if_true, if_neg c, if_neg c2, decide_eq_false s, Bool.not_false]

end Go.Proofs.Ytdgolbknbohoeaa.P
