/- Bytes that are read are those that are written for the value: the plain law. -/
import Derived.Test.YtdgolbknbohoeaaPx13
import Derived.Test.YtdgolbknbohoeaaOpenP
import Derived.Test.YtdgolbknbohoeaaCodecM
namespace Go.Proofs.Ytdgolbknbohoeaa.P
open Go.Proofs.YtdgolbknbohoeaaW.PureKit Go.RowKit Go.Proofs.YtdgolbknbohoeaaW.PrintWords Go.Proofs.YtdgolbknbohoeaaW.OpenKd
set_option linter.unusedVariables false
set_option linter.unusedSimpArgs false

theorem codeN_of {v c : Int} (h0 : 0 ≤ c) (h1 : c ≤ 18446744073709551615) (h : v = if c % 2 = 1 then -(c / 2) - 1 else c / 2) : codeN v = c ∧ -9223372036854775808 ≤ v ∧ v ≤ 9223372036854775807 := by
  unfold codeN; subst h; split <;> (split <;> omega)
theorem OF_uint {b : List Int} {a : Int} (hb : Byts b) (hl : (b.length : Int) ≤ 4096) : (uintS b a).2.2 = 0 → 0 ≤ a ∧ ¬ (uintS b a).2.1 ≤ a ∧ ¬ (uintS b a).2.1 > b.length ∧ a ≤ (uintS b a).2.1 ∧ (uintS b a).2.1 ≤ b.length ∧ grp (uintS b a).1.toNat = (b.take (uintS b a).2.1.toNat).drop a.toNat := by
  intro h
  have h1 := (uintS_b b a).2.2.1 h
  obtain ⟨m, e1, e2, e3⟩ := uintS_form hb h
  refine ⟨h1.1, by omega, by omega, by omega, by omega, ?_⟩
  rw [e2, e1]; rfl
theorem OF_int {b : List Int} {a : Int} (hb : Byts b) (hl : (b.length : Int) ≤ 4096) : (intS b a).2.2 = 0 → 0 ≤ a ∧ ¬ (intS b a).2.1 ≤ a ∧ ¬ (intS b a).2.1 > b.length ∧ a ≤ (intS b a).2.1 ∧ (intS b a).2.1 ≤ b.length ∧ grp (codeN (intS b a).1).toNat = (b.take (intS b a).2.1.toNat).drop a.toNat ∧ -9223372036854775808 ≤ (intS b a).1 ∧ (intS b a).1 ≤ 9223372036854775807 := by
  intro h
  have hu := uintS_b b a
  unfold intS at *
  by_cases c : (uintS b a).2.2 = 0
  · have H := OF_uint hb hl c
    rw [if_pos c] at h ⊢
    have hc := codeN_of (v := if (uintS b a).1 % 2 = 1 then -((uintS b a).1 / 2) - 1 else (uintS b a).1 / 2) hu.1 hu.2.1 rfl
    by_cases d : (uintS b a).1 % 2 = 1
    · rw [if_pos d] at h hc ⊢
      simp only at h ⊢
      rw [hc.1]
      exact ⟨H.1, H.2.1, H.2.2.1, H.2.2.2.1, H.2.2.2.2.1, H.2.2.2.2.2, hc.2.1, hc.2.2⟩
    · rw [if_neg d] at h hc ⊢
      simp only at h ⊢
      rw [hc.1]
      exact ⟨H.1, H.2.1, H.2.2.1, H.2.2.2.1, H.2.2.2.2.1, H.2.2.2.2.2, hc.2.1, hc.2.2⟩
  · rw [if_neg c] at h
    exact absurd h c
theorem split_at_ (b : List Int) {i j k : Nat} (h1 : i ≤ j) (h2 : j ≤ k) (h3 : k ≤ b.length) : (b.take k).drop i = (b.take j).drop i ++ (b.take k).drop j := by
  have e1 : (b.take k).drop i = ((b.take k).drop i).take (j - i) ++ ((b.take k).drop i).drop (j - i) := (List.take_append_drop _ _).symm
  rw [e1, List.drop_drop, List.take_drop, List.take_take, show i + (j - i) = j by omega, Nat.min_eq_left h2]
theorem OF_text {b : List Int} {a : Int} (hb : Byts b) (hl : (b.length : Int) ≤ 4096) : (textS b a b.length).2.2 = 0 → 0 ≤ a ∧ ¬ (textS b a b.length).2.1 ≤ a ∧ ¬ (textS b a b.length).2.1 > b.length ∧ a ≤ (textS b a b.length).2.1 ∧ (textS b a b.length).2.1 ≤ b.length ∧ grp (textS b a b.length).1.size ++ bytesOf (textS b a b.length).1 = (b.take (textS b a b.length).2.1.toNat).drop a.toNat ∧ (textS b a b.length).1.size ≤ 4096 := by
  intro h
  have hu := uintS_b b a
  unfold textS at *
  by_cases c : (uintS b a).2.2 = 0
  · have H := OF_uint hb hl c
    rw [if_pos c] at h ⊢
    by_cases d : (b.length : Int) < 0 ∨ (uintS b a).1 > b.length
    · rw [if_pos d] at h; simp at h
    · rw [if_neg d] at h ⊢
      by_cases f : (uintS b a).1 > b.length - (uintS b a).2.1
      · rw [if_pos f] at h; simp at h
      · rw [if_neg f] at h ⊢
        simp only at h ⊢
        have hz : ((b.take ((uintS b a).2.1 + (uintS b a).1).toNat).drop (uintS b a).2.1.toNat).length = (uintS b a).1.toNat := by
          rw [List.length_drop, List.length_take]; omega
        rw [bytes_str ((hb.take _).drop _), str_size, hz]
        refine ⟨H.1, by omega, by omega, by omega, by omega, ?_, by omega⟩
        rw [H.2.2.2.2.2, ← split_at_ b (by omega) (by omega) (by omega)]
  · rw [if_neg c] at h
    exact absurd h c
theorem OF_bool {b : List Int} {a : Int} (hb : Byts b) (hl : (b.length : Int) ≤ 4096) : (boolS b a).2.2 = 0 → (boolS b a).2.1 = a + 1 ∧ 0 ≤ a ∧ a + 1 ≤ b.length ∧ [if (boolS b a).1 = true then (1 : Int) else 0] = (b.take (a + 1).toNat).drop a.toNat := by
  intro h
  unfold boolS at *
  by_cases c : a < 0 ∨ a > b.length
  · rw [if_pos c] at h; simp at h
  · rw [if_neg c] at h ⊢
    by_cases d : a = b.length
    · rw [if_pos d] at h; simp at h
    · rw [if_neg d] at h ⊢
      by_cases f : rd b a > 1
      · rw [if_pos f] at h; simp at h
      · rw [if_neg f] at h ⊢
        refine ⟨rfl, by omega, by omega, ?_⟩
        have hr := hb _ (by rw [rd_get (show 0 ≤ a by omega) (by omega)]; exact List.getElem_mem _ : rd b a ∈ b)
        have e : (b.take (a + 1).toNat).drop a.toNat = [rd b a] := by
          rw [rd_get (by omega) (by omega), show (a + 1).toNat = a.toNat + 1 by omega, List.take_add_one, List.getElem?_eq_getElem (by omega), List.drop_append_of_le_length (by rw [List.length_take]; omega), List.drop_of_length_le (by rw [List.length_take]; omega)]
          rfl
        rw [e]
        simp only [beq_iff_eq, List.cons.injEq, and_true]
        split <;> omega
theorem pure_CodecOneForm : ∀ (l0 : List Int) (a1 : Int), (OkList (OkInt .u8)) l0 → (OkInt .i64) a1 → ∃ k : Nat, tapearchivelaw02_CodecOneForm.f k l0 a1 = some true := by
  intro l0 a1 h0 h1
  have hb := byts_of h0
  have ha := h1.i64
  obtain ⟨K0, e0⟩ := lives_ev
  by_cases c : (l0.length : Int) > 4096
  · refine ⟨K0, ?_⟩
    simp only [tapearchivelaw02_CodecOneForm.f, e0 K0 (by omega), Option.bind_some, if_true, if_pos c]
  · have hl : (l0.length : Int) ≤ 4611686018427387000 := by omega
    have hu := uintS_b l0 a1
    have Hu := OF_uint (a := a1) hb (by omega)
    have Hi := OF_int (a := a1) hb (by omega)
    have Ht := OF_text (a := a1) hb (by omega)
    have Hb := OF_bool (a := a1) hb (by omega)
    obtain ⟨K1, e1⟩ := Uint_ev (a := a1) hb hl
    obtain ⟨K2, e2⟩ := Int_ev (a := a1) hb hl
    obtain ⟨K3, e3⟩ := Text_ev (a := a1) (most := l0.length) hb hl (by omega)
    obtain ⟨K4, e4⟩ := Bool_ev (a := a1) hl
    generalize uintS l0 a1 = u at *
    generalize intS l0 a1 = v at *
    generalize textS l0 a1 l0.length = t at *
    generalize boolS l0 a1 = o at *
    have J2 : Ev (fun k => tapearchivelaw02_CodecOneForm.j2 k l0 a1 false) true := by
      by_cases z : o.2.2 = 0
      · obtain ⟨z1, z2, z3, z4⟩ := Hb z
        obtain ⟨K6, e6⟩ := PutBool_ev (b := []) (v := o.1) (by simp)
        refine Ev.shift 1 ⟨K4 + K6, fun k hk => ?_⟩
        simp only [tapearchivelaw02_CodecOneForm.j2, e4 k (by omega), e6 k (by omega), Option.bind_some, if_pos z, Bool.false_eq_true, if_false]
        rw [w64 (by omega) (by omega), z1, if_pos rfl, if_pos z3, if_pos z2, if_pos (by omega), List.nil_append, z4, beq_self_eq_true]
      · refine Ev.shift 1 ⟨K4, fun k hk => ?_⟩
        simp only [tapearchivelaw02_CodecOneForm.j2, e4 k (by omega), Option.bind_some, if_neg z, Bool.false_eq_true, if_false]
    have J1 : Ev (fun k => tapearchivelaw02_CodecOneForm.j1 k l0 a1 false) true := by
      obtain ⟨KJ, eJ⟩ := J2
      by_cases z : t.2.2 = 0
      · obtain ⟨z1, z2, z3, z4, z5, z6, z7⟩ := Ht z
        obtain ⟨K6, e6⟩ := PutText_ev (b := []) (s := t.1) (by omega) (by simp; omega)
        refine Ev.shift 1 ⟨K3 + K6 + KJ, fun k hk => ?_⟩
        have eJ := eJ k (by omega)
        simp only [tapearchivelaw02_CodecOneForm.j1, e3 k (by omega), e6 k (by omega), Option.bind_some, if_pos z, Bool.false_eq_true, if_false, if_neg z2, if_neg z3, if_pos z1, if_pos z4, if_pos z5, List.nil_append, z6, bne_self_eq_false] at eJ ⊢
        exact eJ
      · refine Ev.shift 1 ⟨K3 + KJ, fun k hk => ?_⟩
        have eJ := eJ k (by omega)
        simp only [tapearchivelaw02_CodecOneForm.j1, e3 k (by omega), Option.bind_some, if_neg z, Bool.false_eq_true, if_false] at eJ ⊢
        exact eJ
    have J0 : Ev (fun k => tapearchivelaw02_CodecOneForm.j0 k l0 a1 false) true := by
      obtain ⟨KJ, eJ⟩ := J1
      by_cases z : v.2.2 = 0
      · obtain ⟨z1, z2, z3, z4, z5, z6, z7, z8⟩ := Hi z
        obtain ⟨K6, e6⟩ := PutInt_ev (b := []) (n := v.1) z7 z8 (by simp)
        refine Ev.shift 1 ⟨K2 + K6 + KJ, fun k hk => ?_⟩
        have eJ := eJ k (by omega)
        simp only [tapearchivelaw02_CodecOneForm.j0, e2 k (by omega), e6 k (by omega), Option.bind_some, if_pos z, Bool.false_eq_true, if_false, if_neg z2, if_neg z3, if_pos z1, if_pos z4, if_pos z5, List.nil_append, z6, bne_self_eq_false] at eJ ⊢
        exact eJ
      · refine Ev.shift 1 ⟨K2 + KJ, fun k hk => ?_⟩
        have eJ := eJ k (by omega)
        simp only [tapearchivelaw02_CodecOneForm.j0, e2 k (by omega), Option.bind_some, if_neg z, Bool.false_eq_true, if_false] at eJ ⊢
        exact eJ
    obtain ⟨KJ, eJ⟩ := J0
    by_cases z : u.2.2 = 0
    · obtain ⟨z1, z2, z3, z4, z5, z6⟩ := Hu z
      obtain ⟨K6, e6⟩ := PutUint_ev (b := []) (n := u.1) hu.1 hu.2.1 (by simp)
      refine ⟨K0 + K1 + K6 + KJ, ?_⟩
      generalize hk : K0 + K1 + K6 + KJ = k
      have eJ := eJ k (by omega)
      simp only [tapearchivelaw02_CodecOneForm.f, e0 k (by omega), e1 k (by omega), e6 k (by omega), Option.bind_some, if_true, if_neg c, if_pos z, if_neg z2, if_neg z3, if_pos z1, if_pos z4, if_pos z5, List.nil_append, z6, bne_self_eq_false] at eJ ⊢
      exact eJ
    · refine ⟨K0 + K1 + KJ, ?_⟩
      generalize hk : K0 + K1 + KJ = k
      have eJ := eJ k (by omega)
      simp only [tapearchivelaw02_CodecOneForm.f, e0 k (by omega), e1 k (by omega), Option.bind_some, if_true, if_neg c, if_neg z] at eJ ⊢
      exact eJ

end Go.Proofs.Ytdgolbknbohoeaa.P
