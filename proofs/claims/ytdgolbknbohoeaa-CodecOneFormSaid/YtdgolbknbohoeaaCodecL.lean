/- What the statements about layer 2 use: the chapter's examples, values, and their bytes. -/
import Derived.Test.YtdgolbknbohoeaaPx1
import Derived.Test.YtdgolbknbohoeaaPx3
import Derived.Test.YtdgolbknbohoeaaPx4
import Derived.Test.YtdgolbknbohoeaaPx5
import Derived.Test.YtdgolbknbohoeaaCodecC
import Derived.Test.YtdgolbknbohoeaaOpenP
namespace Go.Proofs.Ytdgolbknbohoeaa.P
open Go.RowKit Go.Proofs.YtdgolbknbohoeaaW.PrintWords Go.Proofs.YtdgolbknbohoeaaW.PrintMore Go.Proofs.YtdgolbknbohoeaaW.PureKit Go.Proofs.YtdgolbknbohoeaaW.OpenKd
set_option linter.unusedVariables false
set_option linter.unusedSimpArgs false

theorem byts_of {l : List Int} (h : OkList (OkInt .u8) l) : Byts l := fun x hx => (h.mem hx).u8
theorem bytesOf_byts (s : ByteArray) : Byts (bytesOf s) := by
  intro x hx
  simp only [bytesOf, List.mem_map] at hx
  obtain ⟨b, _, rfl⟩ := hx
  have := b.toNat_lt
  omega
theorem str_bytes (s : ByteArray) : (strOfNums (bytesOf s)).toList = s.toList := by
  rw [Lib.strOfNums_toList, Lib.toList_data]
  unfold Lib.bytesOf bytesOf
  rw [List.map_map]
  conv => rhs; rw [← List.map_id s.data.toList]
  apply List.map_congr_left
  intro b _
  simp
theorem bytes_str {l : List Int} (h : Byts l) : bytesOf (strOfNums l) = l := by
  have e : (strOfNums l).data.toList = l.map fun n => UInt8.ofNat n.toNat := by
    have := Lib.strOfNums_toList l
    rw [Lib.toList_data] at this
    exact this
  unfold bytesOf
  rw [e, List.map_map]
  conv => rhs; rw [← List.map_id l]
  apply List.map_congr_left
  intro x hx
  have := h x hx
  simp only [Function.comp, id, UInt8.toNat_ofNat']
  omega
theorem str_size {l : List Int} : (strOfNums l).size = l.length := by
  have := congrArg List.length (Lib.strOfNums_toList l)
  rw [Lib.toList_data, Lib.bytesOf_length, Array.length_toList] at this
  exact this
theorem lives_ev : Ev (fun k => tapearchivelaw02_lives.f k) true := by
  have h1 := PutUint_ev (b := []) (n := 300) (by omega) (by omega) (by simp)
  have h2 := PutText_ev (b := []) (s := (⟨#[97, 98]⟩ : ByteArray)) (by decide) (by decide)
  have h3 : Ev (fun k => codec_Int.f k [215, 4] 0) (-300, 2, 0) := Ev.of (codec_Int.mono _ _) (k := 20) (by decide +kernel)
  have h4 : Ev (fun k => codec_Uint.f k [128, 0] 0) (0, 0, 1) := Ev.of (codec_Uint.mono _ _) (k := 20) (by decide +kernel)
  have h5 : Ev (fun k => codec_Bool.f k [1] 0) (true, 1, 0) := Ev.of (codec_Bool.mono _ _) (k := 20) (by decide +kernel)
  have g1 : grp 300 = [172, 2] := by rw [grp_big (by omega), grp_small (by omega)]; decide
  have g2 : grp 2 = [2] := grp_small (by omega)
  obtain ⟨K1, h1⟩ := h1
  obtain ⟨K2, h2⟩ := h2
  obtain ⟨K3, h3⟩ := h3
  obtain ⟨K4, h4⟩ := h4
  obtain ⟨K5, h5⟩ := h5
  refine ⟨K1 + K2 + K3 + K4 + K5, fun k hk => ?_⟩
  have e2 : (⟨#[97, 98]⟩ : ByteArray).size = 2 := rfl
  have e3 : (strOfNums ([] ++ (grp (⟨#[97, 98]⟩ : ByteArray).size ++ bytesOf ⟨#[97, 98]⟩))).toList = ([2, 97, 98] : List UInt8) := by
    rw [Lib.strOfNums_toList, e2, g2]; decide
  simp only [tapearchivelaw02_lives.f, h1 k (by omega), h2 k (by omega), h3 k (by omega), h4 k (by omega), h5 k (by omega), Option.bind_some, e3]
  rw [show (300 : Int).toNat = 300 from rfl, g1]
  decide
/-- The bytes of a value. -/
def encV (x : S29) : List Int := if x.f0 = 0 then grp x.f1.toNat else if x.f0 = 1 then grp (codeN x.f2).toNat else if x.f0 = 2 then grp x.f3.size ++ bytesOf x.f3 else [if x.f4 = true then 1 else 0]
/-- A value whose text is short. -/
def Small (x : S29) : Prop := Ok29 x ∧ x.f3.size ≤ 4096
theorem encV_byts (x : S29) : Byts (encV x) := by
  unfold encV
  split
  · exact grp_bytes _
  · split
    · exact grp_bytes _
    · split
      · exact (grp_bytes _).append (bytesOf_byts _)
      · intro y hy
        simp at hy
        subst hy
        split <;> omega
theorem encV_len {x : S29} (h : Small x) : 1 ≤ (encV x).length ∧ (encV x).length ≤ 4106 := by
  obtain ⟨⟨h0, h1, h2, h3, _⟩, hs⟩ := h
  have hu := h1.u64; have hn := h2.i64
  unfold encV
  split
  · have := grp_pos x.f1.toNat; have := grp_le10 (n := x.f1.toNat) (by omega); omega
  · split
    · have hc := codeN_b hn.1 hn.2
      have := grp_pos (codeN x.f2).toNat; have := grp_le10 (n := (codeN x.f2).toNat) (by omega); omega
    · split
      · have := grp_pos x.f3.size; have := grp_le10 (n := x.f3.size) (by omega)
        rw [List.length_append, bytesOf_length]; omega
      · simp
theorem putl_ev {b : List Int} {x : S29} (h : Small x) (hl : b.length ≤ 100000000) : Ev (fun k => tapearchivelaw02_put.f k b x.f0 x.f1 x.f2 x.f3 x.f4) (b ++ encV x) := by
  obtain ⟨⟨h0, h1, h2, h3, _⟩, hs⟩ := h
  have hu := h1.u64; have hn := h2.i64
  unfold encV
  by_cases c0 : x.f0 = 0
  · obtain ⟨K, e⟩ := PutUint_ev (b := b) (n := x.f1) (by omega) (by omega) (by omega)
    refine ⟨K, fun k hk => ?_⟩
    simp only [tapearchivelaw02_put.f, if_pos c0, e k hk, Option.bind_some]
  · by_cases c1 : x.f0 = 1
    · obtain ⟨K, e⟩ := PutInt_ev (b := b) hn.1 hn.2 (by omega)
      refine ⟨K, fun k hk => ?_⟩
      simp only [tapearchivelaw02_put.f, if_neg c0, if_pos c1, e k hk, Option.bind_some]
    · by_cases c2 : x.f0 = 2
      · obtain ⟨K, e⟩ := PutText_ev (b := b) (s := x.f3) (by omega) (by omega)
        refine ⟨K, fun k hk => ?_⟩
        simp only [tapearchivelaw02_put.f, if_neg c0, if_neg c1, if_pos c2, e k hk, Option.bind_some]
      · obtain ⟨K, e⟩ := PutBool_ev (b := b) (v := x.f4) (by omega)
        refine ⟨K, fun k hk => ?_⟩
        simp only [tapearchivelaw02_put.f, if_neg c0, if_neg c1, if_neg c2, e k hk, Option.bind_some]
theorem rd29_get {l : List S29} {i : Int} (h0 : 0 ≤ i) (h1 : i < l.length) : rd_T29 l i = l[i.toNat]'(by omega) := by
  unfold rd_T29
  rw [List.getD_eq_getElem?_getD, List.getElem?_eq_getElem (by omega)]; rfl
theorem drop_rd29 {l : List S29} {i : Int} (h0 : 0 ≤ i) (h1 : i < l.length) : l.drop i.toNat = rd_T29 l i :: l.drop (i + 1).toNat := by
  rw [rd29_get h0 h1, List.drop_eq_getElem_cons (by omega)]
  congr 2
  omega
theorem mem_rd29 {l : List S29} {i : Int} (h0 : 0 ≤ i) (h1 : i < l.length) : rd_T29 l i ∈ l := by rw [rd29_get h0 h1]; exact List.getElem_mem _
theorem small_l0 (l : List S29) (hl : (l.length : Int) ≤ 9223372036854775806) : ∀ (d : Nat) (i : Int), 0 ≤ i → i + d = l.length → Ev (fun k => tapearchivelaw02_small.l0 k l i) ((l.drop i.toNat).all fun x => decide ((x.f3.size : Int) ≤ 4096)) := by
  intro d
  induction d with
  | zero =>
    intro i h0 h1
    rw [List.drop_of_length_le (by omega)]
    refine Ev.shift 1 ⟨0, fun k _ => ?_⟩
    simp only [tapearchivelaw02_small.l0]
    rw [if_neg (by omega)]; rfl
  | succ d ih =>
    intro i h0 h1
    rw [drop_rd29 h0 (by omega), List.all_cons]
    obtain ⟨K, h⟩ := ih (i + 1) (by omega) (by omega)
    refine Ev.shift 1 ⟨K, fun k hk => ?_⟩
    simp only [tapearchivelaw02_small.l0]
    rw [if_pos (by omega), if_pos h0, w64 (by omega) (by omega)]
    by_cases c : ((rd_T29 l i).f3.size : Int) > 4096
    · rw [if_pos c, decide_eq_false (by omega)]; rfl
    · rw [if_neg c, decide_eq_true (by omega)]
      exact h k hk
theorem small_ev (l : List S29) : Ev (fun k => tapearchivelaw02_small.f k l) (decide (l.length ≤ 100 ∧ ∀ x, x ∈ l → x.f3.size ≤ 4096)) := by
  by_cases c : (l.length : Int) > 100
  · refine ⟨0, fun k _ => ?_⟩
    simp only [tapearchivelaw02_small.f]
    rw [if_pos c, decide_eq_false (fun h => by omega)]
  · obtain ⟨K, h⟩ := small_l0 l (by omega) l.length 0 (by omega) (by omega)
    refine ⟨K, fun k hk => ?_⟩
    simp only [tapearchivelaw02_small.f]
    rw [if_neg c]
    have := h k hk
    simp only at this
    rw [this]
    congr 1
    rw [Int.toNat_zero, List.drop_zero, Bool.eq_iff_iff]
    simp
    constructor
    · intro h; exact ⟨by omega, fun x hx => by have := h x hx; omega⟩
    · intro h x hx; have := h.2 x hx; omega
end Go.Proofs.Ytdgolbknbohoeaa.P
