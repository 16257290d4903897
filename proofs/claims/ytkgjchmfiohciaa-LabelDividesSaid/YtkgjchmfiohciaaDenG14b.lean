/- What the Go code does: tables and theorems, written by emit.py. -/
import Derived.Test.YtkgjchmfiohciaaDenS25
import Derived.Test.YtkgjchmfiohciaaDenG14a
import Derived.Test.YtkgjchmfiohciaaProg
set_option linter.unusedVariables false
set_option maxRecDepth 100000
namespace Go.Proofs.Ytkgjchmfiohciaa.Den.G14
open Go.Proofs.Ytkgjchmfiohciaa.Den Go Go.Proofs
def types : List (Nat × Ty) := [(3, ⟨.int .i64, 8, (.int .i64)⟩), (4, ⟨.bool, 1, .bool⟩), (5, ⟨.int .u8, 1, (.int .u8)⟩), (9, ⟨.str, 16, .str⟩), (23, ⟨.struct [(0, 9), (1, 9), (2, 3), (3, 3)], 48, kLabel⟩), (25, ⟨.slice 39, 24, (.slice kBlock)⟩), (26, ⟨.int .i64, 8, (.int .i64)⟩), (36, ⟨.slice 5, 24, (.slice (.int .u8))⟩), (39, ⟨.struct [(0, 4), (1, 4), (2, 36)], 32, kBlock⟩), (51, ⟨.arr 2 5, 2, (.arr 2 (.int .u8))⟩), (60, ⟨.arr 4 5, 4, (.arr 4 (.int .u8))⟩), (62, ⟨.int .u32, 4, (.int .u32)⟩), (64, ⟨.arr 2 9, 32, (.arr 2 .str)⟩), (66, ⟨.int .u64, 8, (.int .u64)⟩), (70, ⟨.arr 3 9, 48, (.arr 3 .str)⟩), (73, ⟨.arr 2 3, 16, (.arr 2 (.int .i64))⟩), (84, ⟨.arr 256 62, 1024, (.arr 256 (.int .u32))⟩), (86, ⟨.slice 36, 24, (.slice (.slice (.int .u8)))⟩)]
theorem types_ok : ∀ p ∈ types, TyOK Try.prog (tyTab types) p.1 p.2 := by
  refine all_mem ?_
  exact ⟨⟨by kernel_rfl, ⟨by kernel_rfl, rfl⟩, by decide⟩, ⟨by kernel_rfl, ⟨by kernel_rfl, rfl⟩, by decide⟩, ⟨by kernel_rfl, ⟨by kernel_rfl, rfl⟩, by decide⟩, ⟨by kernel_rfl, ⟨by kernel_rfl, rfl⟩, by decide⟩, ⟨by kernel_rfl, ⟨by kernel_rfl, rfl, by kernel_rfl, by kernel_rfl, by kernel_rfl, by decide +kernel⟩, by decide⟩, ⟨by kernel_rfl, ⟨by kernel_rfl, _, rfl, rfl⟩, by decide⟩, ⟨by kernel_rfl, ⟨by kernel_rfl, rfl⟩, by decide⟩, ⟨by kernel_rfl, ⟨by kernel_rfl, _, rfl, rfl⟩, by decide⟩, ⟨by kernel_rfl, ⟨by kernel_rfl, rfl, by kernel_rfl, by kernel_rfl, by kernel_rfl, by decide +kernel⟩, by decide⟩, ⟨by kernel_rfl, ⟨by kernel_rfl, _, rfl, rfl, by kernel_rfl⟩, by decide⟩, ⟨by kernel_rfl, ⟨by kernel_rfl, _, rfl, rfl, by kernel_rfl⟩, by decide⟩, ⟨by kernel_rfl, ⟨by kernel_rfl, rfl⟩, by decide⟩, ⟨by kernel_rfl, ⟨by kernel_rfl, _, rfl, rfl, by kernel_rfl⟩, by decide⟩, ⟨by kernel_rfl, ⟨by kernel_rfl, rfl⟩, by decide⟩, ⟨by kernel_rfl, ⟨by kernel_rfl, _, rfl, rfl, by kernel_rfl⟩, by decide⟩, ⟨by kernel_rfl, ⟨by kernel_rfl, _, rfl, rfl, by kernel_rfl⟩, by decide⟩, ⟨by kernel_rfl, ⟨by kernel_rfl, _, rfl, rfl, by kernel_rfl⟩, by decide⟩, ⟨by kernel_rfl, ⟨by kernel_rfl, _, rfl, rfl⟩, by decide⟩, trivial⟩
theorem tau_ok : TauOK Try.prog (tyTab types) := tyTab_ok types_ok
theorem mixed : Try.prog.follows .mixedOrders = true := by kernel_rfl
def label_in_e (d : Nat) : Env [.v .bool] where
  τ := tyTab types
  n := 20
  Γ := tab []
  res := [.tmp 4]
  loopN := tab []
  loopR := tab []
  join := tab []
  loopX := tab []
  unroll := tab []
theorem label_in_G (d : Nat) : ∀ f sp, (label_in_e d).Γ f = some sp → SpecOK Try.prog f sp := tab_all (all_mem trivial)
theorem label_in_ok (d : Nat) : SpecOK Try.prog 33 ⟨[.v (.int .u8), .v (.arr 2 (.int .u8))], [.v .bool], fun x => label_in d x.1 x.2⟩ :=
  fn_ok (e := label_in_e d) (c := bodyOf Try.f33) Try.func33 (by kernel_rfl) (by decide +kernel) mixed tau_ok (label_in_G d) rfl (by decide) (by decide) (by kernel_rfl) rfl (by decide) (fun C hC => loops_of (l := []) (by kernel_rfl) (all_mem trivial)) (fun x => by kernel_rfl)
def label_digit_e (d : Nat) : Env [.v .bool] where
  τ := tyTab types
  n := 6
  Γ := tab [(33, ⟨[.v (.int .u8), .v (.arr 2 (.int .u8))], [.v .bool], fun x => label_in d x.1 x.2⟩)]
  res := [.tmp 2]
  loopN := tab []
  loopR := tab []
  join := tab []
  loopX := tab []
  unroll := tab []
theorem label_digit_G (d : Nat) : ∀ f sp, (label_digit_e d).Γ f = some sp → SpecOK Try.prog f sp := tab_all (all_mem ⟨label_in_ok d, trivial⟩)
theorem label_digit_ok (d : Nat) : SpecOK Try.prog 34 ⟨[.v (.int .u8)], [.v .bool], fun x => label_digit d x⟩ :=
  fn_ok (e := label_digit_e d) (c := bodyOf Try.f34) Try.func34 (by kernel_rfl) (by decide +kernel) mixed tau_ok (label_digit_G d) rfl (by decide) (by decide) (by kernel_rfl) rfl (by decide) (fun C hC => loops_of (l := []) (by kernel_rfl) (all_mem trivial)) (fun x => by kernel_rfl)
def label_Name_1_e (d : Nat) : Env [.v .bool] where
  τ := tyTab types
  n := 20
  Γ := tab [(33, ⟨[.v (.int .u8), .v (.arr 2 (.int .u8))], [.v .bool], fun x => label_in d x.1 x.2⟩), (34, ⟨[.v (.int .u8)], [.v .bool], fun x => label_digit d x⟩)]
  res := [.tmp 4]
  loopN := tab []
  loopR := tab []
  join := tab []
  loopX := tab []
  unroll := tab []
theorem label_Name_1_G (d : Nat) : ∀ f sp, (label_Name_1_e d).Γ f = some sp → SpecOK Try.prog f sp := tab_all (all_mem ⟨label_in_ok d, label_digit_ok d, trivial⟩)
theorem label_Name_1_ok (d : Nat) : SpecOK Try.prog 32 ⟨[.v (.int .i64), .v (.int .u8)], [.v .bool], fun x => label_Name_1 d x.1 x.2⟩ :=
  fn_ok (e := label_Name_1_e d) (c := bodyOf Try.f32) Try.func32 (by kernel_rfl) (by decide +kernel) mixed tau_ok (label_Name_1_G d) rfl (by decide) (by decide) (by kernel_rfl) rfl (by decide) (fun C hC => loops_of (l := []) (by kernel_rfl) (all_mem trivial)) (fun x => by kernel_rfl)
def label_word_string_label_Name_1_e (d : Nat) : Env [.v .bool] where
  τ := tyTab types
  n := 27
  Γ := tab [(32, ⟨[.v (.int .i64), .v (.int .u8)], [.v .bool], fun x => label_Name_1 d x.1 x.2⟩)]
  res := [.tmp 4]
  loopN := tab []
  loopR := tab [(0, ⟨⟨[(0, .p .str), (1, .fn 32 []), (7, .p (.int .i64)), (8, .p (.int .i64))], []⟩, ⟨[(0, .p .str)], []⟩, fun x => label_word_string_label_Name_1_l0 d d x.1 x.2.1 x.2.2⟩)]
  join := tab []
  loopX := tab []
  unroll := tab []
theorem label_word_string_label_Name_1_G (d : Nat) : ∀ f sp, (label_word_string_label_Name_1_e d).Γ f = some sp → SpecOK Try.prog f sp := tab_all (all_mem ⟨label_Name_1_ok d, trivial⟩)
theorem label_word_string_label_Name_1_l0_ok (d : Nat) (C : Cx) (hC : (label_word_string_label_Name_1_e d).n = C.n) : ∀ k, LoopR Try.prog C (label_word_string_label_Name_1_e d) (loopAt (bodyOf Try.f31) 0) 0 ⟨⟨[(0, .p .str), (1, .fn 32 []), (7, .p (.int .i64)), (8, .p (.int .i64))], []⟩, ⟨[(0, .p .str)], []⟩, fun x => label_word_string_label_Name_1_l0 d k x.1 x.2.1 x.2.2⟩ :=
  loopR_ok (outs := [.v .bool]) ⟨[(0, .p .str), (1, .fn 32 []), (7, .p (.int .i64)), (8, .p (.int .i64))], []⟩ ⟨[(0, .p .str)], []⟩ (fun k x => label_word_string_label_Name_1_l0 d k x.1 x.2.1 x.2.2) (fun _ => label_word_string_label_Name_1_e d) (fun _ => ⟨tau_ok, hC, label_word_string_label_Name_1_G d⟩) mixed (fun _ => loops_of (l := []) (by kernel_rfl) (all_mem trivial)) (fun _ => rfl) (fun _ => rfl) (fun _ => rfl) (fun k x => by kernel_rfl)
theorem label_word_string_label_Name_1_ok (d : Nat) : SpecOK Try.prog 31 ⟨[.v .str, .f 32 []], [.v .bool], fun x => label_word_string_label_Name_1 d x⟩ :=
  fn_ok (e := label_word_string_label_Name_1_e d) (c := bodyOf Try.f31) Try.func31 (by kernel_rfl) (by decide +kernel) mixed tau_ok (label_word_string_label_Name_1_G d) rfl (by decide) (by decide) (by kernel_rfl) rfl (by decide) (fun C hC => loops_of (l := [(0, loopAt (bodyOf Try.f31) 0)]) (by kernel_rfl) (all_mem ⟨⟨tab_none rfl, tab_none rfl, tab_one rfl (label_word_string_label_Name_1_l0_ok d C hC d), tab_none rfl⟩, trivial⟩)) (fun x => by kernel_rfl)
def label_Name_e (d : Nat) : Env [.v .bool] where
  τ := tyTab types
  n := 5
  Γ := tab [(31, ⟨[.v .str, .f 32 []], [.v .bool], fun x => label_word_string_label_Name_1 d x⟩)]
  res := [.tmp 2]
  loopN := tab []
  loopR := tab []
  join := tab []
  loopX := tab []
  unroll := tab []
theorem label_Name_G (d : Nat) : ∀ f sp, (label_Name_e d).Γ f = some sp → SpecOK Try.prog f sp := tab_all (all_mem ⟨label_word_string_label_Name_1_ok d, trivial⟩)
theorem label_Name_ok (d : Nat) : SpecOK Try.prog 14 ⟨[.v .str], [.v .bool], fun x => label_Name d x⟩ :=
  fn_ok (e := label_Name_e d) (c := bodyOf Try.f14) Try.func14 (by kernel_rfl) (by decide +kernel) mixed tau_ok (label_Name_G d) rfl (by decide) (by decide) (by kernel_rfl) rfl (by decide) (fun C hC => loops_of (l := []) (by kernel_rfl) (all_mem trivial)) (fun x => by kernel_rfl)
def label_barcode_1_e (d : Nat) : Env [.v .bool] where
  τ := tyTab types
  n := 12
  Γ := tab [(33, ⟨[.v (.int .u8), .v (.arr 2 (.int .u8))], [.v .bool], fun x => label_in d x.1 x.2⟩), (34, ⟨[.v (.int .u8)], [.v .bool], fun x => label_digit d x⟩)]
  res := [.tmp 4]
  loopN := tab []
  loopR := tab []
  join := tab []
  loopX := tab []
  unroll := tab []
theorem label_barcode_1_G (d : Nat) : ∀ f sp, (label_barcode_1_e d).Γ f = some sp → SpecOK Try.prog f sp := tab_all (all_mem ⟨label_in_ok d, label_digit_ok d, trivial⟩)
theorem label_barcode_1_ok (d : Nat) : SpecOK Try.prog 50 ⟨[.v (.int .i64), .v (.int .u8)], [.v .bool], fun x => label_barcode_1 d x.1 x.2⟩ :=
  fn_ok (e := label_barcode_1_e d) (c := bodyOf Try.f50) Try.func50 (by kernel_rfl) (by decide +kernel) mixed tau_ok (label_barcode_1_G d) rfl (by decide) (by decide) (by kernel_rfl) rfl (by decide) (fun C hC => loops_of (l := []) (by kernel_rfl) (all_mem trivial)) (fun x => by kernel_rfl)
def label_word_string_label_barcode_1_e (d : Nat) : Env [.v .bool] where
  τ := tyTab types
  n := 27
  Γ := tab [(50, ⟨[.v (.int .i64), .v (.int .u8)], [.v .bool], fun x => label_barcode_1 d x.1 x.2⟩)]
  res := [.tmp 4]
  loopN := tab []
  loopR := tab [(0, ⟨⟨[(0, .p .str), (1, .fn 50 []), (7, .p (.int .i64)), (8, .p (.int .i64))], []⟩, ⟨[(0, .p .str)], []⟩, fun x => label_word_string_label_barcode_1_l0 d d x.1 x.2.1 x.2.2⟩)]
  join := tab []
  loopX := tab []
  unroll := tab []
theorem label_word_string_label_barcode_1_G (d : Nat) : ∀ f sp, (label_word_string_label_barcode_1_e d).Γ f = some sp → SpecOK Try.prog f sp := tab_all (all_mem ⟨label_barcode_1_ok d, trivial⟩)
theorem label_word_string_label_barcode_1_l0_ok (d : Nat) (C : Cx) (hC : (label_word_string_label_barcode_1_e d).n = C.n) : ∀ k, LoopR Try.prog C (label_word_string_label_barcode_1_e d) (loopAt (bodyOf Try.f31) 0) 0 ⟨⟨[(0, .p .str), (1, .fn 50 []), (7, .p (.int .i64)), (8, .p (.int .i64))], []⟩, ⟨[(0, .p .str)], []⟩, fun x => label_word_string_label_barcode_1_l0 d k x.1 x.2.1 x.2.2⟩ :=
  loopR_ok (outs := [.v .bool]) ⟨[(0, .p .str), (1, .fn 50 []), (7, .p (.int .i64)), (8, .p (.int .i64))], []⟩ ⟨[(0, .p .str)], []⟩ (fun k x => label_word_string_label_barcode_1_l0 d k x.1 x.2.1 x.2.2) (fun _ => label_word_string_label_barcode_1_e d) (fun _ => ⟨tau_ok, hC, label_word_string_label_barcode_1_G d⟩) mixed (fun _ => loops_of (l := []) (by kernel_rfl) (all_mem trivial)) (fun _ => rfl) (fun _ => rfl) (fun _ => rfl) (fun k x => by kernel_rfl)
theorem label_word_string_label_barcode_1_ok (d : Nat) : SpecOK Try.prog 31 ⟨[.v .str, .f 50 []], [.v .bool], fun x => label_word_string_label_barcode_1 d x⟩ :=
  fn_ok (e := label_word_string_label_barcode_1_e d) (c := bodyOf Try.f31) Try.func31 (by kernel_rfl) (by decide +kernel) mixed tau_ok (label_word_string_label_barcode_1_G d) rfl (by decide) (by decide) (by kernel_rfl) rfl (by decide) (fun C hC => loops_of (l := [(0, loopAt (bodyOf Try.f31) 0)]) (by kernel_rfl) (all_mem ⟨⟨tab_none rfl, tab_none rfl, tab_one rfl (label_word_string_label_barcode_1_l0_ok d C hC d), tab_none rfl⟩, trivial⟩)) (fun x => by kernel_rfl)
def label_barcode_e (d : Nat) : Env [.v .bool] where
  τ := tyTab types
  n := 5
  Γ := tab [(31, ⟨[.v .str, .f 50 []], [.v .bool], fun x => label_word_string_label_barcode_1 d x⟩)]
  res := [.tmp 2]
  loopN := tab []
  loopR := tab []
  join := tab []
  loopX := tab []
  unroll := tab []
theorem label_barcode_G (d : Nat) : ∀ f sp, (label_barcode_e d).Γ f = some sp → SpecOK Try.prog f sp := tab_all (all_mem ⟨label_word_string_label_barcode_1_ok d, trivial⟩)
theorem label_barcode_ok (d : Nat) : SpecOK Try.prog 29 ⟨[.v .str], [.v .bool], fun x => label_barcode d x⟩ :=
  fn_ok (e := label_barcode_e d) (c := bodyOf Try.f29) Try.func29 (by kernel_rfl) (by decide +kernel) mixed tau_ok (label_barcode_G d) rfl (by decide) (by decide) (by kernel_rfl) rfl (by decide) (fun C hC => loops_of (l := []) (by kernel_rfl) (all_mem trivial)) (fun x => by kernel_rfl)
def label_Valid_e (d : Nat) : Env [.v .bool] where
  τ := tyTab types
  n := 31
  Γ := tab [(14, ⟨[.v .str], [.v .bool], fun x => label_Name d x⟩), (29, ⟨[.v .str], [.v .bool], fun x => label_barcode d x⟩)]
  res := [.tmp 2]
  loopN := tab []
  loopR := tab []
  join := tab []
  loopX := tab []
  unroll := tab []
theorem label_Valid_G (d : Nat) : ∀ f sp, (label_Valid_e d).Γ f = some sp → SpecOK Try.prog f sp := tab_all (all_mem ⟨label_Name_ok d, label_barcode_ok d, trivial⟩)
theorem label_Valid_ok (d : Nat) : SpecOK Try.prog 12 ⟨[.v kLabel], [.v .bool], fun x => label_Valid d x⟩ :=
  fn_ok (e := label_Valid_e d) (c := bodyOf Try.f12) Try.func12 (by kernel_rfl) (by decide +kernel) mixed tau_ok (label_Valid_G d) rfl (by decide) (by decide) (by kernel_rfl) rfl (by decide) (fun C hC => loops_of (l := []) (by kernel_rfl) (all_mem trivial)) (fun x => by kernel_rfl)
def label_Divide_e (d : Nat) : Env [.o 39 kBlock false] where
  τ := tyTab types
  n := 24
  Γ := tab []
  res := [.tmp 2]
  loopN := tab [(0, ⟨⟨[(0, .p (.slice (.int .u8))), (3, .slw 2000001 false), (4, .p (.int .i64))], [(2000001, .list 39 kBlock)]⟩, ⟨[(3, .slw 2000001 false)], [(2000001, .list 39 kBlock)]⟩, fun x => label_Divide_l0 d d x.1 x.2.1 x.2.2⟩)]
  loopR := tab []
  join := tab []
  loopX := tab []
  unroll := tab []
theorem label_Divide_G (d : Nat) : ∀ f sp, (label_Divide_e d).Γ f = some sp → SpecOK Try.prog f sp := tab_all (all_mem trivial)
theorem label_Divide_l0_ok (d : Nat) (C : Cx) (hC : (label_Divide_e d).n = C.n) : ∀ k, LoopN Try.prog C (loopAt (bodyOf Try.f22) 0) 0 ⟨⟨[(0, .p (.slice (.int .u8))), (3, .slw 2000001 false), (4, .p (.int .i64))], [(2000001, .list 39 kBlock)]⟩, ⟨[(3, .slw 2000001 false)], [(2000001, .list 39 kBlock)]⟩, fun x => label_Divide_l0 d k x.1 x.2.1 x.2.2⟩ :=
  loopN_ok (outs := [.o 39 kBlock false]) ⟨[(0, .p (.slice (.int .u8))), (3, .slw 2000001 false), (4, .p (.int .i64))], [(2000001, .list 39 kBlock)]⟩ ⟨[(3, .slw 2000001 false)], [(2000001, .list 39 kBlock)]⟩ (fun k x => label_Divide_l0 d k x.1 x.2.1 x.2.2) (fun _ => label_Divide_e d) (fun _ => ⟨tau_ok, hC, label_Divide_G d⟩) mixed (fun _ => loops_of (l := []) (by kernel_rfl) (all_mem trivial)) (fun _ => rfl) (fun k x => by kernel_rfl)
theorem label_Divide_ok (d : Nat) : SpecOK Try.prog 22 ⟨[.v (.slice (.int .u8))], [.o 39 kBlock false], fun x => label_Divide d x⟩ :=
  fn_ok (e := label_Divide_e d) (c := bodyOf Try.f22) Try.func22 (by kernel_rfl) (by decide +kernel) mixed tau_ok (label_Divide_G d) rfl (by decide) (by decide) (by kernel_rfl) rfl (by decide) (fun C hC => loops_of (l := [(0, loopAt (bodyOf Try.f22) 0)]) (by kernel_rfl) (all_mem ⟨⟨tab_none rfl, tab_one rfl (label_Divide_l0_ok d C hC d), tab_none rfl, tab_none rfl⟩, trivial⟩)) (fun x => by kernel_rfl)
def frame_magic_e (d : Nat) : Env [.v (.arr 2 (.int .u8))] where
  τ := tyTab types
  n := 2
  Γ := tab []
  res := [.cell 0 51]
  loopN := tab []
  loopR := tab []
  join := tab []
  loopX := tab []
  unroll := tab []
theorem frame_magic_G (d : Nat) : ∀ f sp, (frame_magic_e d).Γ f = some sp → SpecOK Try.prog f sp := tab_all (all_mem trivial)
theorem frame_magic_ok (d : Nat) : SpecOK Try.prog 41 ⟨[], [.v (.arr 2 (.int .u8))], fun x => frame_magic d⟩ :=
  fn_ok (e := frame_magic_e d) (c := bodyOf Try.f41) Try.func41 (by kernel_rfl) (by decide +kernel) mixed tau_ok (frame_magic_G d) rfl (by decide) (by decide) (by kernel_rfl) rfl (by decide) (fun C hC => loops_of (l := []) (by kernel_rfl) (all_mem trivial)) (fun x => by kernel_rfl)
def frame_four_e (d : Nat) : Env [.v (.arr 4 (.int .u8))] where
  τ := tyTab types
  n := 15
  Γ := tab []
  res := [.cell 2 60]
  loopN := tab []
  loopR := tab []
  join := tab []
  loopX := tab []
  unroll := tab []
theorem frame_four_G (d : Nat) : ∀ f sp, (frame_four_e d).Γ f = some sp → SpecOK Try.prog f sp := tab_all (all_mem trivial)
theorem frame_four_ok (d : Nat) : SpecOK Try.prog 42 ⟨[.v (.int .u32)], [.v (.arr 4 (.int .u8))], fun x => frame_four d x⟩ :=
  fn_ok (e := frame_four_e d) (c := bodyOf Try.f42) Try.func42 (by kernel_rfl) (by decide +kernel) mixed tau_ok (frame_four_G d) rfl (by decide) (by decide) (by kernel_rfl) rfl (by decide) (fun C hC => loops_of (l := []) (by kernel_rfl) (all_mem trivial)) (fun x => by kernel_rfl)
def checksum_step_e (d : Nat) : Env [.v (.int .u32)] where
  τ := tyTab types
  n := 11
  Γ := tab []
  res := [.tmp 2]
  loopN := tab []
  loopR := tab []
  join := tab []
  loopX := tab []
  unroll := tab []
theorem checksum_step_G (d : Nat) : ∀ f sp, (checksum_step_e d).Γ f = some sp → SpecOK Try.prog f sp := tab_all (all_mem trivial)
theorem checksum_step_ok (d : Nat) : SpecOK Try.prog 69 ⟨[.v (.int .u32)], [.v (.int .u32)], fun x => checksum_step d x⟩ :=
  fn_ok (e := checksum_step_e d) (c := bodyOf Try.f69) Try.func69 (by kernel_rfl) (by decide +kernel) mixed tau_ok (checksum_step_G d) rfl (by decide) (by decide) (by kernel_rfl) rfl (by decide) (fun C hC => loops_of (l := []) (by kernel_rfl) (all_mem trivial)) (fun x => by kernel_rfl)
def checksum_remainders_e (d : Nat) : Env [.v (.arr 256 (.int .u32))] where
  τ := tyTab types
  n := 19
  Γ := tab [(69, ⟨[.v (.int .u32)], [.v (.int .u32)], fun x => checksum_step d x⟩)]
  res := [.cell 0 84]
  loopN := tab [(2, ⟨⟨[(0, .ad 0 0), (1, .ad 1 0), (2, .p (.int .i64)), (3, .p (.int .u32)), (4, .p (.int .i64)), (9, .p (.int .i64))], [(0, .list 84 (.int .u32)), (1, .list 84 (.int .u32))]⟩, ⟨[(0, .ad 0 0), (1, .ad 1 0), (2, .p (.int .i64)), (3, .p (.int .u32)), (4, .p (.int .i64))], [(0, .list 84 (.int .u32)), (1, .list 84 (.int .u32))]⟩, fun x => checksum_remainders_l2 d d x.1 x.2.1 x.2.2.1 x.2.2.2.1 x.2.2.2.2.1 x.2.2.2.2.2⟩), (0, ⟨⟨[(0, .ad 0 0), (1, .ad 1 0), (4, .p (.int .i64))], [(0, .list 84 (.int .u32)), (1, .list 84 (.int .u32))]⟩, ⟨[(0, .ad 0 0), (1, .ad 1 0)], [(0, .list 84 (.int .u32)), (1, .list 84 (.int .u32))]⟩, fun x => checksum_remainders_l0 d d x.1 x.2.1 x.2.2⟩)]
  loopR := tab []
  join := tab []
  loopX := tab []
  unroll := tab []
theorem checksum_remainders_G (d : Nat) : ∀ f sp, (checksum_remainders_e d).Γ f = some sp → SpecOK Try.prog f sp := tab_all (all_mem ⟨checksum_step_ok d, trivial⟩)
theorem checksum_remainders_l2_ok (d : Nat) (C : Cx) (hC : (checksum_remainders_e d).n = C.n) : ∀ k, LoopN Try.prog C (loopAt (loopAt (bodyOf Try.f67) 0) 0) 2 ⟨⟨[(0, .ad 0 0), (1, .ad 1 0), (2, .p (.int .i64)), (3, .p (.int .u32)), (4, .p (.int .i64)), (9, .p (.int .i64))], [(0, .list 84 (.int .u32)), (1, .list 84 (.int .u32))]⟩, ⟨[(0, .ad 0 0), (1, .ad 1 0), (2, .p (.int .i64)), (3, .p (.int .u32)), (4, .p (.int .i64))], [(0, .list 84 (.int .u32)), (1, .list 84 (.int .u32))]⟩, fun x => checksum_remainders_l2 d k x.1 x.2.1 x.2.2.1 x.2.2.2.1 x.2.2.2.2.1 x.2.2.2.2.2⟩ :=
  loopN_ok (outs := [.v (.arr 256 (.int .u32))]) ⟨[(0, .ad 0 0), (1, .ad 1 0), (2, .p (.int .i64)), (3, .p (.int .u32)), (4, .p (.int .i64)), (9, .p (.int .i64))], [(0, .list 84 (.int .u32)), (1, .list 84 (.int .u32))]⟩ ⟨[(0, .ad 0 0), (1, .ad 1 0), (2, .p (.int .i64)), (3, .p (.int .u32)), (4, .p (.int .i64))], [(0, .list 84 (.int .u32)), (1, .list 84 (.int .u32))]⟩ (fun k x => checksum_remainders_l2 d k x.1 x.2.1 x.2.2.1 x.2.2.2.1 x.2.2.2.2.1 x.2.2.2.2.2) (fun _ => checksum_remainders_e d) (fun _ => ⟨tau_ok, hC, checksum_remainders_G d⟩) mixed (fun _ => loops_of (l := []) (by kernel_rfl) (all_mem trivial)) (fun _ => rfl) (fun k x => by kernel_rfl)
theorem checksum_remainders_l0_ok (d : Nat) (C : Cx) (hC : (checksum_remainders_e d).n = C.n) : ∀ k, LoopN Try.prog C (loopAt (bodyOf Try.f67) 0) 0 ⟨⟨[(0, .ad 0 0), (1, .ad 1 0), (4, .p (.int .i64))], [(0, .list 84 (.int .u32)), (1, .list 84 (.int .u32))]⟩, ⟨[(0, .ad 0 0), (1, .ad 1 0)], [(0, .list 84 (.int .u32)), (1, .list 84 (.int .u32))]⟩, fun x => checksum_remainders_l0 d k x.1 x.2.1 x.2.2⟩ :=
  loopN_ok (outs := [.v (.arr 256 (.int .u32))]) ⟨[(0, .ad 0 0), (1, .ad 1 0), (4, .p (.int .i64))], [(0, .list 84 (.int .u32)), (1, .list 84 (.int .u32))]⟩ ⟨[(0, .ad 0 0), (1, .ad 1 0)], [(0, .list 84 (.int .u32)), (1, .list 84 (.int .u32))]⟩ (fun k x => checksum_remainders_l0 d k x.1 x.2.1 x.2.2) (fun _ => checksum_remainders_e d) (fun _ => ⟨tau_ok, hC, checksum_remainders_G d⟩) mixed (fun _ => loops_of (l := [(2, loopAt (loopAt (bodyOf Try.f67) 0) 0)]) (by kernel_rfl) (all_mem ⟨⟨tab_none rfl, tab_one rfl (checksum_remainders_l2_ok d C hC d), tab_none rfl, tab_none rfl⟩, trivial⟩)) (fun _ => rfl) (fun k x => by kernel_rfl)
theorem checksum_remainders_ok (d : Nat) : SpecOK Try.prog 67 ⟨[], [.v (.arr 256 (.int .u32))], fun x => checksum_remainders d⟩ :=
  fn_ok (e := checksum_remainders_e d) (c := bodyOf Try.f67) Try.func67 (by kernel_rfl) (by decide +kernel) mixed tau_ok (checksum_remainders_G d) rfl (by decide) (by decide) (by kernel_rfl) rfl (by decide) (fun C hC => loops_of (l := [(0, loopAt (bodyOf Try.f67) 0)]) (by kernel_rfl) (all_mem ⟨⟨tab_none rfl, tab_one rfl (checksum_remainders_l0_ok d C hC d), tab_none rfl, tab_none rfl⟩, trivial⟩)) (fun x => by kernel_rfl)
def checksum_Update_e (d : Nat) : Env [.v (.int .u32)] where
  τ := tyTab types
  n := 30
  Γ := tab [(67, ⟨[], [.v (.arr 256 (.int .u32))], fun x => checksum_remainders d⟩)]
  res := [.tmp 4]
  loopN := tab [(0, ⟨⟨[(5, .ad 5 0), (6, .p (.int .u32)), (12, .p (.slice (.int .u8))), (13, .p (.int .i64)), (14, .p (.int .i64))], [(5, .list 84 (.int .u32))]⟩, ⟨[(6, .p (.int .u32))], []⟩, fun x => checksum_Update_l0 d d x.1 x.2.1 x.2.2.1 x.2.2.2.1 x.2.2.2.2⟩)]
  loopR := tab []
  join := tab []
  loopX := tab []
  unroll := tab []
theorem checksum_Update_G (d : Nat) : ∀ f sp, (checksum_Update_e d).Γ f = some sp → SpecOK Try.prog f sp := tab_all (all_mem ⟨checksum_remainders_ok d, trivial⟩)
theorem checksum_Update_l0_ok (d : Nat) (C : Cx) (hC : (checksum_Update_e d).n = C.n) : ∀ k, LoopN Try.prog C (loopAt (bodyOf Try.f58) 0) 0 ⟨⟨[(5, .ad 5 0), (6, .p (.int .u32)), (12, .p (.slice (.int .u8))), (13, .p (.int .i64)), (14, .p (.int .i64))], [(5, .list 84 (.int .u32))]⟩, ⟨[(6, .p (.int .u32))], []⟩, fun x => checksum_Update_l0 d k x.1 x.2.1 x.2.2.1 x.2.2.2.1 x.2.2.2.2⟩ :=
  loopN_ok (outs := [.v (.int .u32)]) ⟨[(5, .ad 5 0), (6, .p (.int .u32)), (12, .p (.slice (.int .u8))), (13, .p (.int .i64)), (14, .p (.int .i64))], [(5, .list 84 (.int .u32))]⟩ ⟨[(6, .p (.int .u32))], []⟩ (fun k x => checksum_Update_l0 d k x.1 x.2.1 x.2.2.1 x.2.2.2.1 x.2.2.2.2) (fun _ => checksum_Update_e d) (fun _ => ⟨tau_ok, hC, checksum_Update_G d⟩) mixed (fun _ => loops_of (l := []) (by kernel_rfl) (all_mem trivial)) (fun _ => rfl) (fun k x => by kernel_rfl)
theorem checksum_Update_ok (d : Nat) : SpecOK Try.prog 58 ⟨[.v (.int .u32), .v (.slice (.int .u8))], [.v (.int .u32)], fun x => checksum_Update d x.1 x.2⟩ :=
  fn_ok (e := checksum_Update_e d) (c := bodyOf Try.f58) Try.func58 (by kernel_rfl) (by decide +kernel) mixed tau_ok (checksum_Update_G d) rfl (by decide) (by decide) (by kernel_rfl) rfl (by decide) (fun C hC => loops_of (l := [(0, loopAt (bodyOf Try.f58) 0)]) (by kernel_rfl) (all_mem ⟨⟨tab_none rfl, tab_one rfl (checksum_Update_l0_ok d C hC d), tab_none rfl, tab_none rfl⟩, trivial⟩)) (fun x => by kernel_rfl)
def checksum_Sum_e (d : Nat) : Env [.v (.int .u32)] where
  τ := tyTab types
  n := 5
  Γ := tab [(58, ⟨[.v (.int .u32), .v (.slice (.int .u8))], [.v (.int .u32)], fun x => checksum_Update d x.1 x.2⟩)]
  res := [.tmp 2]
  loopN := tab []
  loopR := tab []
  join := tab []
  loopX := tab []
  unroll := tab []
theorem checksum_Sum_G (d : Nat) : ∀ f sp, (checksum_Sum_e d).Γ f = some sp → SpecOK Try.prog f sp := tab_all (all_mem ⟨checksum_Update_ok d, trivial⟩)
theorem checksum_Sum_ok (d : Nat) : SpecOK Try.prog 59 ⟨[.v (.slice (.int .u8))], [.v (.int .u32)], fun x => checksum_Sum d x⟩ :=
  fn_ok (e := checksum_Sum_e d) (c := bodyOf Try.f59) Try.func59 (by kernel_rfl) (by decide +kernel) mixed tau_ok (checksum_Sum_G d) rfl (by decide) (by decide) (by kernel_rfl) rfl (by decide) (fun C hC => loops_of (l := []) (by kernel_rfl) (all_mem trivial)) (fun x => by kernel_rfl)
def frame_sum_e (d : Nat) : Env [.v (.int .u32)] where
  τ := tyTab types
  n := 9
  Γ := tab [(58, ⟨[.v (.int .u32), .v (.slice (.int .u8))], [.v (.int .u32)], fun x => checksum_Update d x.1 x.2⟩), (59, ⟨[.v (.slice (.int .u8))], [.v (.int .u32)], fun x => checksum_Sum d x⟩)]
  res := [.tmp 4]
  loopN := tab []
  loopR := tab []
  join := tab []
  loopX := tab []
  unroll := tab []
theorem frame_sum_G (d : Nat) : ∀ f sp, (frame_sum_e d).Γ f = some sp → SpecOK Try.prog f sp := tab_all (all_mem ⟨checksum_Update_ok d, checksum_Sum_ok d, trivial⟩)
theorem frame_sum_ok (d : Nat) : SpecOK Try.prog 43 ⟨[.v (.arr 4 (.int .u8)), .v (.slice (.int .u8))], [.v (.int .u32)], fun x => frame_sum d x.1 x.2⟩ :=
  fn_ok (e := frame_sum_e d) (c := bodyOf Try.f43) Try.func43 (by kernel_rfl) (by decide +kernel) mixed tau_ok (frame_sum_G d) rfl (by decide) (by decide) (by kernel_rfl) rfl (by decide) (fun C hC => loops_of (l := []) (by kernel_rfl) (all_mem trivial)) (fun x => by kernel_rfl)
def frame_Append_e (d : Nat) : Env [.o 5 (.int .u8) false, .v (.int .i64)] where
  τ := tyTab types
  n := 42
  Γ := tab [(41, ⟨[], [.v (.arr 2 (.int .u8))], fun x => frame_magic d⟩), (42, ⟨[.v (.int .u32)], [.v (.arr 4 (.int .u8))], fun x => frame_four d x⟩), (43, ⟨[.v (.arr 4 (.int .u8)), .v (.slice (.int .u8))], [.v (.int .u32)], fun x => frame_sum d x.1 x.2⟩)]
  res := [.tmp 4, .tmp 5]
  loopN := tab []
  loopR := tab []
  join := tab []
  loopX := tab []
  unroll := tab []
theorem frame_Append_G (d : Nat) : ∀ f sp, (frame_Append_e d).Γ f = some sp → SpecOK Try.prog f sp := tab_all (all_mem ⟨frame_magic_ok d, frame_four_ok d, frame_sum_ok d, trivial⟩)
theorem frame_Append_ok (d : Nat) : SpecOK Try.prog 23 ⟨[.v (.slice (.int .u8)), .v (.slice (.int .u8))], [.o 5 (.int .u8) false, .v (.int .i64)], fun x => frame_Append d x.1 x.2⟩ :=
  fn_ok (e := frame_Append_e d) (c := bodyOf Try.f23) Try.func23 (by kernel_rfl) (by decide +kernel) mixed tau_ok (frame_Append_G d) rfl (by decide) (by decide) (by kernel_rfl) rfl (by decide) (fun C hC => loops_of (l := []) (by kernel_rfl) (all_mem trivial)) (fun x => by kernel_rfl)
def codec_put_byte_e (d : Nat) : Env [.v (.slice (.int .u8))] where
  τ := tyTab types
  n := 22
  Γ := tab []
  res := [.tmp 4]
  loopN := tab [(0, ⟨⟨[(5, .slw 8 false), (11, .p (.slice (.slice (.int .u8)))), (12, .p (.int .i64)), (13, .p (.int .i64))], [(8, .list 5 (.int .u8))]⟩, ⟨[(5, .slw 8 false)], [(8, .list 5 (.int .u8))]⟩, fun x => codec_put_byte_l0 d d x.1 x.2.1 x.2.2.1 x.2.2.2⟩)]
  loopR := tab []
  join := tab []
  loopX := tab []
  unroll := tab []
theorem codec_put_byte_G (d : Nat) : ∀ f sp, (codec_put_byte_e d).Γ f = some sp → SpecOK Try.prog f sp := tab_all (all_mem trivial)
theorem codec_put_byte_l0_ok (d : Nat) (C : Cx) (hC : (codec_put_byte_e d).n = C.n) : ∀ k, LoopN Try.prog C (loopAt (bodyOf Try.f60) 0) 0 ⟨⟨[(5, .slw 8 false), (11, .p (.slice (.slice (.int .u8)))), (12, .p (.int .i64)), (13, .p (.int .i64))], [(8, .list 5 (.int .u8))]⟩, ⟨[(5, .slw 8 false)], [(8, .list 5 (.int .u8))]⟩, fun x => codec_put_byte_l0 d k x.1 x.2.1 x.2.2.1 x.2.2.2⟩ :=
  loopN_ok (outs := [.v (.slice (.int .u8))]) ⟨[(5, .slw 8 false), (11, .p (.slice (.slice (.int .u8)))), (12, .p (.int .i64)), (13, .p (.int .i64))], [(8, .list 5 (.int .u8))]⟩ ⟨[(5, .slw 8 false)], [(8, .list 5 (.int .u8))]⟩ (fun k x => codec_put_byte_l0 d k x.1 x.2.1 x.2.2.1 x.2.2.2) (fun _ => codec_put_byte_e d) (fun _ => ⟨tau_ok, hC, codec_put_byte_G d⟩) mixed (fun _ => loops_of (l := []) (by kernel_rfl) (all_mem trivial)) (fun _ => rfl) (fun k x => by kernel_rfl)
theorem codec_put_byte_ok (d : Nat) : SpecOK Try.prog 60 ⟨[.v (.slice (.int .u8)), .v (.slice (.slice (.int .u8)))], [.v (.slice (.int .u8))], fun x => codec_put_byte d x.1 x.2⟩ :=
  fn_ok (e := codec_put_byte_e d) (c := bodyOf Try.f60) Try.func60 (by kernel_rfl) (by decide +kernel) mixed tau_ok (codec_put_byte_G d) rfl (by decide) (by decide) (by kernel_rfl) rfl (by decide) (fun C hC => loops_of (l := [(0, loopAt (bodyOf Try.f60) 0)]) (by kernel_rfl) (all_mem ⟨⟨tab_none rfl, tab_one rfl (codec_put_byte_l0_ok d C hC d), tab_none rfl, tab_none rfl⟩, trivial⟩)) (fun x => by kernel_rfl)
def codec_groups_e (d : Nat) : Env [.v (.slice (.int .u8))] where
  τ := tyTab types
  n := 20
  Γ := tab []
  res := [.tmp 2]
  loopN := tab [(0, ⟨⟨[(0, .p (.int .u64)), (3, .slw 2000001 false)], [(2000001, .list 5 (.int .u8))]⟩, ⟨[(0, .p (.int .u64)), (3, .slw 2000001 false)], [(2000001, .list 5 (.int .u8))]⟩, fun x => codec_groups_l0 d d x.1 x.2⟩)]
  loopR := tab []
  join := tab []
  loopX := tab []
  unroll := tab []
theorem codec_groups_G (d : Nat) : ∀ f sp, (codec_groups_e d).Γ f = some sp → SpecOK Try.prog f sp := tab_all (all_mem trivial)
theorem codec_groups_l0_ok (d : Nat) (C : Cx) (hC : (codec_groups_e d).n = C.n) : ∀ k, LoopN Try.prog C (loopAt (bodyOf Try.f61) 0) 0 ⟨⟨[(0, .p (.int .u64)), (3, .slw 2000001 false)], [(2000001, .list 5 (.int .u8))]⟩, ⟨[(0, .p (.int .u64)), (3, .slw 2000001 false)], [(2000001, .list 5 (.int .u8))]⟩, fun x => codec_groups_l0 d k x.1 x.2⟩ :=
  loopN_ok (outs := [.v (.slice (.int .u8))]) ⟨[(0, .p (.int .u64)), (3, .slw 2000001 false)], [(2000001, .list 5 (.int .u8))]⟩ ⟨[(0, .p (.int .u64)), (3, .slw 2000001 false)], [(2000001, .list 5 (.int .u8))]⟩ (fun k x => codec_groups_l0 d k x.1 x.2) (fun _ => codec_groups_e d) (fun _ => ⟨tau_ok, hC, codec_groups_G d⟩) mixed (fun _ => loops_of (l := []) (by kernel_rfl) (all_mem trivial)) (fun _ => rfl) (fun k x => by kernel_rfl)
theorem codec_groups_ok (d : Nat) : SpecOK Try.prog 61 ⟨[.v (.int .u64)], [.v (.slice (.int .u8))], fun x => codec_groups d x⟩ :=
  fn_ok (e := codec_groups_e d) (c := bodyOf Try.f61) Try.func61 (by kernel_rfl) (by decide +kernel) mixed tau_ok (codec_groups_G d) rfl (by decide) (by decide) (by kernel_rfl) rfl (by decide) (fun C hC => loops_of (l := [(0, loopAt (bodyOf Try.f61) 0)]) (by kernel_rfl) (all_mem ⟨⟨tab_none rfl, tab_one rfl (codec_groups_l0_ok d C hC d), tab_none rfl, tab_none rfl⟩, trivial⟩)) (fun x => by kernel_rfl)
def codec_PutText_e (d : Nat) : Env [.v (.slice (.int .u8))] where
  τ := tyTab types
  n := 14
  Γ := tab [(60, ⟨[.v (.slice (.int .u8)), .v (.slice (.slice (.int .u8)))], [.v (.slice (.int .u8))], fun x => codec_put_byte d x.1 x.2⟩), (61, ⟨[.v (.int .u64)], [.v (.slice (.int .u8))], fun x => codec_groups d x⟩)]
  res := [.tmp 4]
  loopN := tab []
  loopR := tab []
  join := tab []
  loopX := tab []
  unroll := tab []
theorem codec_PutText_G (d : Nat) : ∀ f sp, (codec_PutText_e d).Γ f = some sp → SpecOK Try.prog f sp := tab_all (all_mem ⟨codec_put_byte_ok d, codec_groups_ok d, trivial⟩)
theorem codec_PutText_ok (d : Nat) : SpecOK Try.prog 44 ⟨[.v (.slice (.int .u8)), .v .str], [.v (.slice (.int .u8))], fun x => codec_PutText d x.1 x.2⟩ :=
  fn_ok (e := codec_PutText_e d) (c := bodyOf Try.f44) Try.func44 (by kernel_rfl) (by decide +kernel) mixed tau_ok (codec_PutText_G d) rfl (by decide) (by decide) (by kernel_rfl) rfl (by decide) (fun C hC => loops_of (l := []) (by kernel_rfl) (all_mem trivial)) (fun x => by kernel_rfl)
def codec_code_e (d : Nat) : Env [.v (.int .u64)] where
  τ := tyTab types
  n := 14
  Γ := tab []
  res := [.tmp 2]
  loopN := tab []
  loopR := tab []
  join := tab []
  loopX := tab []
  unroll := tab []
theorem codec_code_G (d : Nat) : ∀ f sp, (codec_code_e d).Γ f = some sp → SpecOK Try.prog f sp := tab_all (all_mem trivial)
theorem codec_code_ok (d : Nat) : SpecOK Try.prog 62 ⟨[.v (.int .i64)], [.v (.int .u64)], fun x => codec_code d x⟩ :=
  fn_ok (e := codec_code_e d) (c := bodyOf Try.f62) Try.func62 (by kernel_rfl) (by decide +kernel) mixed tau_ok (codec_code_G d) rfl (by decide) (by decide) (by kernel_rfl) rfl (by decide) (fun C hC => loops_of (l := []) (by kernel_rfl) (all_mem trivial)) (fun x => by kernel_rfl)
def codec_PutInt_e (d : Nat) : Env [.v (.slice (.int .u8))] where
  τ := tyTab types
  n := 11
  Γ := tab [(60, ⟨[.v (.slice (.int .u8)), .v (.slice (.slice (.int .u8)))], [.v (.slice (.int .u8))], fun x => codec_put_byte d x.1 x.2⟩), (61, ⟨[.v (.int .u64)], [.v (.slice (.int .u8))], fun x => codec_groups d x⟩), (62, ⟨[.v (.int .i64)], [.v (.int .u64)], fun x => codec_code d x⟩)]
  res := [.tmp 4]
  loopN := tab []
  loopR := tab []
  join := tab []
  loopX := tab []
  unroll := tab []
theorem codec_PutInt_G (d : Nat) : ∀ f sp, (codec_PutInt_e d).Γ f = some sp → SpecOK Try.prog f sp := tab_all (all_mem ⟨codec_put_byte_ok d, codec_groups_ok d, codec_code_ok d, trivial⟩)
theorem codec_PutInt_ok (d : Nat) : SpecOK Try.prog 45 ⟨[.v (.slice (.int .u8)), .v (.int .i64)], [.v (.slice (.int .u8))], fun x => codec_PutInt d x.1 x.2⟩ :=
  fn_ok (e := codec_PutInt_e d) (c := bodyOf Try.f45) Try.func45 (by kernel_rfl) (by decide +kernel) mixed tau_ok (codec_PutInt_G d) rfl (by decide) (by decide) (by kernel_rfl) rfl (by decide) (fun C hC => loops_of (l := []) (by kernel_rfl) (all_mem trivial)) (fun x => by kernel_rfl)
def label_body_e (d : Nat) : Env [.v (.slice (.int .u8))] where
  τ := tyTab types
  n := 26
  Γ := tab [(44, ⟨[.v (.slice (.int .u8)), .v .str], [.v (.slice (.int .u8))], fun x => codec_PutText d x.1 x.2⟩), (45, ⟨[.v (.slice (.int .u8)), .v (.int .i64)], [.v (.slice (.int .u8))], fun x => codec_PutInt d x.1 x.2⟩)]
  res := [.tmp 2]
  loopN := tab [(0, ⟨⟨[(1, .ad 1 0), (3, .p (.slice (.int .u8))), (11, .p (.arr 2 .str)), (12, .p (.int .i64))], [(1, .agg 23 kLabel)]⟩, ⟨[(1, .ad 1 0), (3, .p (.slice (.int .u8)))], [(1, .agg 23 kLabel)]⟩, fun x => label_body_l0 d d x.1 x.2.1 x.2.2.1 x.2.2.2⟩)]
  loopR := tab []
  join := tab []
  loopX := tab []
  unroll := tab []
theorem label_body_G (d : Nat) : ∀ f sp, (label_body_e d).Γ f = some sp → SpecOK Try.prog f sp := tab_all (all_mem ⟨codec_PutText_ok d, codec_PutInt_ok d, trivial⟩)
theorem label_body_l0_ok (d : Nat) (C : Cx) (hC : (label_body_e d).n = C.n) : ∀ k, LoopN Try.prog C (loopAt (bodyOf Try.f24) 0) 0 ⟨⟨[(1, .ad 1 0), (3, .p (.slice (.int .u8))), (11, .p (.arr 2 .str)), (12, .p (.int .i64))], [(1, .agg 23 kLabel)]⟩, ⟨[(1, .ad 1 0), (3, .p (.slice (.int .u8)))], [(1, .agg 23 kLabel)]⟩, fun x => label_body_l0 d k x.1 x.2.1 x.2.2.1 x.2.2.2⟩ :=
  loopN_ok (outs := [.v (.slice (.int .u8))]) ⟨[(1, .ad 1 0), (3, .p (.slice (.int .u8))), (11, .p (.arr 2 .str)), (12, .p (.int .i64))], [(1, .agg 23 kLabel)]⟩ ⟨[(1, .ad 1 0), (3, .p (.slice (.int .u8)))], [(1, .agg 23 kLabel)]⟩ (fun k x => label_body_l0 d k x.1 x.2.1 x.2.2.1 x.2.2.2) (fun _ => label_body_e d) (fun _ => ⟨tau_ok, hC, label_body_G d⟩) mixed (fun _ => loops_of (l := []) (by kernel_rfl) (all_mem trivial)) (fun _ => rfl) (fun k x => by kernel_rfl)
theorem label_body_ok (d : Nat) : SpecOK Try.prog 24 ⟨[.v kLabel], [.v (.slice (.int .u8))], fun x => label_body d x⟩ :=
  fn_ok (e := label_body_e d) (c := bodyOf Try.f24) Try.func24 (by kernel_rfl) (by decide +kernel) mixed tau_ok (label_body_G d) rfl (by decide) (by decide) (by kernel_rfl) rfl (by decide) (fun C hC => loops_of (l := [(0, loopAt (bodyOf Try.f24) 0)]) (by kernel_rfl) (all_mem ⟨⟨tab_none rfl, tab_one rfl (label_body_l0_ok d C hC d), tab_none rfl, tab_none rfl⟩, trivial⟩)) (fun x => by kernel_rfl)
def label_Blocks_e (d : Nat) : Env [.o 39 kBlock false, .v (.int .i64)] where
  τ := tyTab types
  n := 23
  Γ := tab [(12, ⟨[.v kLabel], [.v .bool], fun x => label_Valid d x⟩), (22, ⟨[.v (.slice (.int .u8))], [.o 39 kBlock false], fun x => label_Divide d x⟩), (23, ⟨[.v (.slice (.int .u8)), .v (.slice (.int .u8))], [.o 5 (.int .u8) false, .v (.int .i64)], fun x => frame_Append d x.1 x.2⟩), (24, ⟨[.v kLabel], [.v (.slice (.int .u8))], fun x => label_body d x⟩)]
  res := [.tmp 2, .tmp 3]
  loopN := tab []
  loopR := tab []
  join := tab []
  loopX := tab []
  unroll := tab []
theorem label_Blocks_G (d : Nat) : ∀ f sp, (label_Blocks_e d).Γ f = some sp → SpecOK Try.prog f sp := tab_all (all_mem ⟨label_Valid_ok d, label_Divide_ok d, frame_Append_ok d, label_body_ok d, trivial⟩)
theorem label_Blocks_ok (d : Nat) : SpecOK Try.prog 9 ⟨[.v kLabel], [.o 39 kBlock false, .v (.int .i64)], fun x => label_Blocks d x⟩ :=
  fn_ok (e := label_Blocks_e d) (c := bodyOf Try.f9) Try.func9 (by kernel_rfl) (by decide +kernel) mixed tau_ok (label_Blocks_G d) rfl (by decide) (by decide) (by kernel_rfl) rfl (by decide) (fun C hC => loops_of (l := []) (by kernel_rfl) (all_mem trivial)) (fun x => by kernel_rfl)
def label_Bytes_e (d : Nat) : Env [.v (.slice (.int .u8))] where
  τ := tyTab types
  n := 24
  Γ := tab []
  res := [.tmp 2]
  loopN := tab [(0, ⟨⟨[(3, .slw 2000001 false), (6, .p (.slice kBlock)), (7, .p (.int .i64)), (8, .p (.int .i64))], [(2000001, .list 5 (.int .u8))]⟩, ⟨[(3, .slw 2000001 false)], [(2000001, .list 5 (.int .u8))]⟩, fun x => label_Bytes_l0 d d x.1 x.2.1 x.2.2.1 x.2.2.2⟩)]
  loopR := tab []
  join := tab [(6, ⟨[(3, .slw 2000001 false), (5, .ad 5 0), (6, .p (.slice kBlock)), (7, .p (.int .i64)), (8, .p (.int .i64))], [(5, .agg 39 kBlock), (2000001, .list 5 (.int .u8))]⟩)]
  loopX := tab []
  unroll := tab []
theorem label_Bytes_G (d : Nat) : ∀ f sp, (label_Bytes_e d).Γ f = some sp → SpecOK Try.prog f sp := tab_all (all_mem trivial)
theorem label_Bytes_l0_ok (d : Nat) (C : Cx) (hC : (label_Bytes_e d).n = C.n) : ∀ k, LoopN Try.prog C (loopAt (bodyOf Try.f19) 0) 0 ⟨⟨[(3, .slw 2000001 false), (6, .p (.slice kBlock)), (7, .p (.int .i64)), (8, .p (.int .i64))], [(2000001, .list 5 (.int .u8))]⟩, ⟨[(3, .slw 2000001 false)], [(2000001, .list 5 (.int .u8))]⟩, fun x => label_Bytes_l0 d k x.1 x.2.1 x.2.2.1 x.2.2.2⟩ :=
  loopN_ok (outs := [.v (.slice (.int .u8))]) ⟨[(3, .slw 2000001 false), (6, .p (.slice kBlock)), (7, .p (.int .i64)), (8, .p (.int .i64))], [(2000001, .list 5 (.int .u8))]⟩ ⟨[(3, .slw 2000001 false)], [(2000001, .list 5 (.int .u8))]⟩ (fun k x => label_Bytes_l0 d k x.1 x.2.1 x.2.2.1 x.2.2.2) (fun _ => label_Bytes_e d) (fun _ => ⟨tau_ok, hC, label_Bytes_G d⟩) mixed (fun _ => loops_of (l := []) (by kernel_rfl) (all_mem trivial)) (fun _ => rfl) (fun k x => by kernel_rfl)
theorem label_Bytes_ok (d : Nat) : SpecOK Try.prog 19 ⟨[.v (.slice kBlock)], [.v (.slice (.int .u8))], fun x => label_Bytes d x⟩ :=
  fn_ok (e := label_Bytes_e d) (c := bodyOf Try.f19) Try.func19 (by kernel_rfl) (by decide +kernel) mixed tau_ok (label_Bytes_G d) rfl (by decide) (by decide) (by kernel_rfl) rfl (by decide) (fun C hC => loops_of (l := [(0, loopAt (bodyOf Try.f19) 0)]) (by kernel_rfl) (all_mem ⟨⟨tab_none rfl, tab_one rfl (label_Bytes_l0_ok d C hC d), tab_none rfl, tab_none rfl⟩, trivial⟩)) (fun x => by kernel_rfl)
def label_damaged_e (d : Nat) : Env [.v .bool] where
  τ := tyTab types
  n := 18
  Γ := tab []
  res := [.tmp 2]
  loopN := tab []
  loopR := tab [(0, ⟨⟨[(5, .p (.slice kBlock)), (6, .p (.int .i64)), (7, .p (.int .i64))], []⟩, ⟨[], []⟩, fun x => label_damaged_l0 d d x.1 x.2.1 x.2.2⟩)]
  join := tab []
  loopX := tab []
  unroll := tab []
theorem label_damaged_G (d : Nat) : ∀ f sp, (label_damaged_e d).Γ f = some sp → SpecOK Try.prog f sp := tab_all (all_mem trivial)
theorem label_damaged_l0_ok (d : Nat) (C : Cx) (hC : (label_damaged_e d).n = C.n) : ∀ k, LoopR Try.prog C (label_damaged_e d) (loopAt (bodyOf Try.f35) 0) 0 ⟨⟨[(5, .p (.slice kBlock)), (6, .p (.int .i64)), (7, .p (.int .i64))], []⟩, ⟨[], []⟩, fun x => label_damaged_l0 d k x.1 x.2.1 x.2.2⟩ :=
  loopR_ok (outs := [.v .bool]) ⟨[(5, .p (.slice kBlock)), (6, .p (.int .i64)), (7, .p (.int .i64))], []⟩ ⟨[], []⟩ (fun k x => label_damaged_l0 d k x.1 x.2.1 x.2.2) (fun _ => label_damaged_e d) (fun _ => ⟨tau_ok, hC, label_damaged_G d⟩) mixed (fun _ => loops_of (l := []) (by kernel_rfl) (all_mem trivial)) (fun _ => rfl) (fun _ => rfl) (fun _ => rfl) (fun k x => by kernel_rfl)
theorem label_damaged_ok (d : Nat) : SpecOK Try.prog 35 ⟨[.v (.slice kBlock)], [.v .bool], fun x => label_damaged d x⟩ :=
  fn_ok (e := label_damaged_e d) (c := bodyOf Try.f35) Try.func35 (by kernel_rfl) (by decide +kernel) mixed tau_ok (label_damaged_G d) rfl (by decide) (by decide) (by kernel_rfl) rfl (by decide) (fun C hC => loops_of (l := [(0, loopAt (bodyOf Try.f35) 0)]) (by kernel_rfl) (all_mem ⟨⟨tab_none rfl, tab_none rfl, tab_one rfl (label_damaged_l0_ok d C hC d), tab_none rfl⟩, trivial⟩)) (fun x => by kernel_rfl)
def frame_number_e (d : Nat) : Env [.v (.int .u32)] where
  τ := tyTab types
  n := 25
  Γ := tab []
  res := [.tmp 2]
  loopN := tab []
  loopR := tab []
  join := tab []
  loopX := tab []
  unroll := tab []
theorem frame_number_G (d : Nat) : ∀ f sp, (frame_number_e d).Γ f = some sp → SpecOK Try.prog f sp := tab_all (all_mem trivial)
theorem frame_number_ok (d : Nat) : SpecOK Try.prog 64 ⟨[.v (.slice (.int .u8))], [.v (.int .u32)], fun x => frame_number d x⟩ :=
  fn_ok (e := frame_number_e d) (c := bodyOf Try.f64) Try.func64 (by kernel_rfl) (by decide +kernel) mixed tau_ok (frame_number_G d) rfl (by decide) (by decide) (by kernel_rfl) rfl (by decide) (fun C hC => loops_of (l := []) (by kernel_rfl) (all_mem trivial)) (fun x => by kernel_rfl)
def frame_next_e (d : Nat) : Env [.v (.slice (.int .u8)), .v (.int .i64), .v (.int .i64)] where
  τ := tyTab types
  n := 61
  Γ := tab [(41, ⟨[], [.v (.arr 2 (.int .u8))], fun x => frame_magic d⟩), (43, ⟨[.v (.arr 4 (.int .u8)), .v (.slice (.int .u8))], [.v (.int .u32)], fun x => frame_sum d x.1 x.2⟩), (64, ⟨[.v (.slice (.int .u8))], [.v (.int .u32)], fun x => frame_number d x⟩)]
  res := [.tmp 4, .tmp 5, .tmp 6]
  loopN := tab []
  loopR := tab []
  join := tab [(3, ⟨[(0, .p (.slice (.int .u8))), (1, .p (.int .i64))], []⟩)]
  loopX := tab []
  unroll := tab []
theorem frame_next_G (d : Nat) : ∀ f sp, (frame_next_e d).Γ f = some sp → SpecOK Try.prog f sp := tab_all (all_mem ⟨frame_magic_ok d, frame_sum_ok d, frame_number_ok d, trivial⟩)
theorem frame_next_ok (d : Nat) : SpecOK Try.prog 51 ⟨[.v (.slice (.int .u8)), .v (.int .i64)], [.v (.slice (.int .u8)), .v (.int .i64), .v (.int .i64)], fun x => frame_next d x.1 x.2⟩ :=
  fn_ok (e := frame_next_e d) (c := bodyOf Try.f51) Try.func51 (by kernel_rfl) (by decide +kernel) mixed tau_ok (frame_next_G d) rfl (by decide) (by decide) (by kernel_rfl) rfl (by decide) (fun C hC => loops_of (l := []) (by kernel_rfl) (all_mem trivial)) (fun x => by kernel_rfl)
def bytes_Clone_e (d : Nat) : Env [.v (.slice (.int .u8))] where
  τ := tyTab types
  n := 8
  Γ := tab []
  res := [.tmp 2]
  loopN := tab []
  loopR := tab []
  join := tab []
  loopX := tab []
  unroll := tab []
theorem bytes_Clone_ok (d : Nat) : SpecOK Try.prog 52 ⟨[.v (.slice (.int .u8))], [.v (.slice (.int .u8))], fun x => bytes_Clone d x⟩ :=
  clone_ok (F := bytes_Clone d) (e := bytes_Clone_e d) (fn := Try.f52) (t := 36) (e0 := 5) (by_ := 24) (t' := 36) (i1 := 1) (o1 := opAt (seqL (seqL (seqR (bodyOf Try.f52)))) 0) (o2 := opAt (seqL (seqL (seqR (bodyOf Try.f52)))) 1) (r0 := seqL (bodyOf Try.f52)) (ca := condT (seqR (seqL (seqR (bodyOf Try.f52))))) (b := seqR (seqR (bodyOf Try.f52))) (s0 := fun xs => ⟨upd (init [.v (.slice (.int .u8))] xs).t 2 .nilsl, fun _ => none⟩)
    Try.func52 (by kernel_rfl) (by decide +kernel) mixed tau_ok (tab_all (all_mem trivial)) rfl (by decide) (by decide) (by kernel_rfl) (by kernel_rfl) (by decide) (by kernel_rfl) (by kernel_rfl) (by kernel_rfl) (by kernel_rfl) (by kernel_rfl) (by kernel_rfl)
    (fun C => ⟨loops_of (l := []) (by kernel_rfl) (all_mem trivial), loops_of (l := []) (by kernel_rfl) (all_mem trivial), loops_of (l := []) (by kernel_rfl) (all_mem trivial)⟩) (fun xs => by kernel_rfl) (fun xs => rfl) (fun xs => by kernel_rfl) (fun xs => by kernel_rfl) (by kernel_rfl)
def frame_Next_e (d : Nat) : Env [.v (.slice (.int .u8)), .v (.int .i64), .v (.int .i64)] where
  τ := tyTab types
  n := 21
  Γ := tab [(51, ⟨[.v (.slice (.int .u8)), .v (.int .i64)], [.v (.slice (.int .u8)), .v (.int .i64), .v (.int .i64)], fun x => frame_next d x.1 x.2⟩), (52, ⟨[.v (.slice (.int .u8))], [.v (.slice (.int .u8))], fun x => bytes_Clone d x⟩)]
  res := [.tmp 4, .tmp 5, .tmp 6]
  loopN := tab []
  loopR := tab []
  join := tab []
  loopX := tab []
  unroll := tab []
theorem frame_Next_G (d : Nat) : ∀ f sp, (frame_Next_e d).Γ f = some sp → SpecOK Try.prog f sp := tab_all (all_mem ⟨frame_next_ok d, bytes_Clone_ok d, trivial⟩)
theorem frame_Next_ok (d : Nat) : SpecOK Try.prog 36 ⟨[.v (.slice (.int .u8)), .v (.int .i64)], [.v (.slice (.int .u8)), .v (.int .i64), .v (.int .i64)], fun x => frame_Next d x.1 x.2⟩ :=
  fn_ok (e := frame_Next_e d) (c := bodyOf Try.f36) Try.func36 (by kernel_rfl) (by decide +kernel) mixed tau_ok (frame_Next_G d) rfl (by decide) (by decide) (by kernel_rfl) rfl (by decide) (fun C hC => loops_of (l := []) (by kernel_rfl) (all_mem trivial)) (fun x => by kernel_rfl)
def codec_Uint_e (d : Nat) : Env [.v (.int .u64), .v (.int .i64), .v (.int .i64)] where
  τ := tyTab types
  n := 73
  Γ := tab []
  res := [.tmp 4, .tmp 5, .tmp 6]
  loopN := tab []
  loopR := tab [(0, ⟨⟨[(1, .p (.int .i64)), (7, .p (.slice (.int .u8))), (8, .p (.int .u64)), (27, .p (.slice (.int .u8))), (28, .p (.int .i64)), (29, .p (.int .i64))], []⟩, ⟨[(7, .p (.slice (.int .u8)))], []⟩, fun x => codec_Uint_l0 d d x.1 x.2.1 x.2.2.1 x.2.2.2.1 x.2.2.2.2.1 x.2.2.2.2.2⟩)]
  join := tab [(3, ⟨[(0, .p (.slice (.int .u8))), (1, .p (.int .i64))], []⟩), (14, ⟨[(1, .p (.int .i64)), (8, .p (.int .u64)), (9, .p (.int .i64)), (10, .p (.int .u8))], []⟩)]
  loopX := tab []
  unroll := tab []
theorem codec_Uint_G (d : Nat) : ∀ f sp, (codec_Uint_e d).Γ f = some sp → SpecOK Try.prog f sp := tab_all (all_mem trivial)
theorem codec_Uint_l0_ok (d : Nat) (C : Cx) (hC : (codec_Uint_e d).n = C.n) : ∀ k, LoopR Try.prog C (codec_Uint_e d) (loopAt (bodyOf Try.f65) 0) 0 ⟨⟨[(1, .p (.int .i64)), (7, .p (.slice (.int .u8))), (8, .p (.int .u64)), (27, .p (.slice (.int .u8))), (28, .p (.int .i64)), (29, .p (.int .i64))], []⟩, ⟨[(7, .p (.slice (.int .u8)))], []⟩, fun x => codec_Uint_l0 d k x.1 x.2.1 x.2.2.1 x.2.2.2.1 x.2.2.2.2.1 x.2.2.2.2.2⟩ :=
  loopR_ok (outs := [.v (.int .u64), .v (.int .i64), .v (.int .i64)]) ⟨[(1, .p (.int .i64)), (7, .p (.slice (.int .u8))), (8, .p (.int .u64)), (27, .p (.slice (.int .u8))), (28, .p (.int .i64)), (29, .p (.int .i64))], []⟩ ⟨[(7, .p (.slice (.int .u8)))], []⟩ (fun k x => codec_Uint_l0 d k x.1 x.2.1 x.2.2.1 x.2.2.2.1 x.2.2.2.2.1 x.2.2.2.2.2) (fun _ => codec_Uint_e d) (fun _ => ⟨tau_ok, hC, codec_Uint_G d⟩) mixed (fun _ => loops_of (l := []) (by kernel_rfl) (all_mem trivial)) (fun _ => rfl) (fun _ => rfl) (fun _ => rfl) (fun k x => by kernel_rfl)
theorem codec_Uint_ok (d : Nat) : SpecOK Try.prog 65 ⟨[.v (.slice (.int .u8)), .v (.int .i64)], [.v (.int .u64), .v (.int .i64), .v (.int .i64)], fun x => codec_Uint d x.1 x.2⟩ :=
  fn_ok (e := codec_Uint_e d) (c := bodyOf Try.f65) Try.func65 (by kernel_rfl) (by decide +kernel) mixed tau_ok (codec_Uint_G d) rfl (by decide) (by decide) (by kernel_rfl) rfl (by decide) (fun C hC => loops_of (l := [(0, loopAt (bodyOf Try.f65) 0)]) (by kernel_rfl) (all_mem ⟨⟨tab_none rfl, tab_none rfl, tab_one rfl (codec_Uint_l0_ok d C hC d), tab_none rfl⟩, trivial⟩)) (fun x => by kernel_rfl)
def codec_Text_e (d : Nat) : Env [.v .str, .v (.int .i64), .v (.int .i64)] where
  τ := tyTab types
  n := 51
  Γ := tab [(65, ⟨[.v (.slice (.int .u8)), .v (.int .i64)], [.v (.int .u64), .v (.int .i64), .v (.int .i64)], fun x => codec_Uint d x.1 x.2⟩)]
  res := [.tmp 6, .tmp 7, .tmp 8]
  loopN := tab []
  loopR := tab []
  join := tab [(8, ⟨[(0, .p (.slice (.int .u8))), (9, .p (.int .u64)), (10, .p (.int .i64))], []⟩)]
  loopX := tab []
  unroll := tab []
theorem codec_Text_G (d : Nat) : ∀ f sp, (codec_Text_e d).Γ f = some sp → SpecOK Try.prog f sp := tab_all (all_mem ⟨codec_Uint_ok d, trivial⟩)
theorem codec_Text_ok (d : Nat) : SpecOK Try.prog 53 ⟨[.v (.slice (.int .u8)), .v (.int .i64), .v (.int .i64)], [.v .str, .v (.int .i64), .v (.int .i64)], fun x => codec_Text d x.1 x.2.1 x.2.2⟩ :=
  fn_ok (e := codec_Text_e d) (c := bodyOf Try.f53) Try.func53 (by kernel_rfl) (by decide +kernel) mixed tau_ok (codec_Text_G d) rfl (by decide) (by decide) (by kernel_rfl) rfl (by decide) (fun C hC => loops_of (l := []) (by kernel_rfl) (all_mem trivial)) (fun x => by kernel_rfl)
def codec_Int_e (d : Nat) : Env [.v (.int .i64), .v (.int .i64), .v (.int .i64)] where
  τ := tyTab types
  n := 35
  Γ := tab [(65, ⟨[.v (.slice (.int .u8)), .v (.int .i64)], [.v (.int .u64), .v (.int .i64), .v (.int .i64)], fun x => codec_Uint d x.1 x.2⟩)]
  res := [.tmp 4, .tmp 5, .tmp 6]
  loopN := tab []
  loopR := tab []
  join := tab []
  loopX := tab []
  unroll := tab []
theorem codec_Int_G (d : Nat) : ∀ f sp, (codec_Int_e d).Γ f = some sp → SpecOK Try.prog f sp := tab_all (all_mem ⟨codec_Uint_ok d, trivial⟩)
theorem codec_Int_ok (d : Nat) : SpecOK Try.prog 54 ⟨[.v (.slice (.int .u8)), .v (.int .i64)], [.v (.int .i64), .v (.int .i64), .v (.int .i64)], fun x => codec_Int d x.1 x.2⟩ :=
  fn_ok (e := codec_Int_e d) (c := bodyOf Try.f54) Try.func54 (by kernel_rfl) (by decide +kernel) mixed tau_ok (codec_Int_G d) rfl (by decide) (by decide) (by kernel_rfl) rfl (by decide) (fun C hC => loops_of (l := []) (by kernel_rfl) (all_mem trivial)) (fun x => by kernel_rfl)
def label_fields_e (d : Nat) : Env [.v kLabel, .v (.int .i64)] where
  τ := tyTab types
  n := 84
  Γ := tab [(12, ⟨[.v kLabel], [.v .bool], fun x => label_Valid d x⟩), (53, ⟨[.v (.slice (.int .u8)), .v (.int .i64), .v (.int .i64)], [.v .str, .v (.int .i64), .v (.int .i64)], fun x => codec_Text d x.1 x.2.1 x.2.2⟩), (54, ⟨[.v (.slice (.int .u8)), .v (.int .i64)], [.v (.int .i64), .v (.int .i64), .v (.int .i64)], fun x => codec_Int d x.1 x.2⟩)]
  res := [.cell 2 23, .tmp 3]
  loopN := tab []
  loopR := tab []
  join := tab []
  loopX := tab []
  unroll := tab [(0, 20), (3, 20)]
theorem label_fields_G (d : Nat) : ∀ f sp, (label_fields_e d).Γ f = some sp → SpecOK Try.prog f sp := tab_all (all_mem ⟨label_Valid_ok d, codec_Text_ok d, codec_Int_ok d, trivial⟩)
theorem label_fields_ok (d : Nat) : SpecOK Try.prog 37 ⟨[.v (.slice (.int .u8))], [.v kLabel, .v (.int .i64)], fun x => label_fields d x⟩ :=
  fn_ok (e := label_fields_e d) (c := bodyOf Try.f37) Try.func37 (by kernel_rfl) (by decide +kernel) mixed tau_ok (label_fields_G d) rfl (by decide) (by decide) (by kernel_rfl) rfl (by decide) (fun C hC => loops_of (l := [(0, loopAt (bodyOf Try.f37) 0), (3, loopAt (bodyOf Try.f37) 1)]) (by kernel_rfl) (all_mem ⟨⟨fun _ _ => loops_of (l := []) (by kernel_rfl) (all_mem trivial), tab_none rfl, tab_none rfl, tab_none rfl⟩, ⟨fun _ _ => loops_of (l := []) (by kernel_rfl) (all_mem trivial), tab_none rfl, tab_none rfl, tab_none rfl⟩, trivial⟩)) (fun x => by kernel_rfl)
def label_same_e (d : Nat) : Env [.v .bool] where
  τ := tyTab types
  n := 26
  Γ := tab []
  res := [.tmp 4]
  loopN := tab []
  loopR := tab []
  join := tab []
  loopX := tab []
  unroll := tab []
theorem label_same_G (d : Nat) : ∀ f sp, (label_same_e d).Γ f = some sp → SpecOK Try.prog f sp := tab_all (all_mem trivial)
theorem label_same_ok (d : Nat) : SpecOK Try.prog 38 ⟨[.v kBlock, .v kBlock], [.v .bool], fun x => label_same d x.1 x.2⟩ :=
  fn_ok (e := label_same_e d) (c := bodyOf Try.f38) Try.func38 (by kernel_rfl) (by decide +kernel) mixed tau_ok (label_same_G d) rfl (by decide) (by decide) (by kernel_rfl) rfl (by decide) (fun C hC => loops_of (l := []) (by kernel_rfl) (all_mem trivial)) (fun x => by kernel_rfl)
def label_Parse_e (d : Nat) : Env [.v kLabel, .v (.int .i64), .v (.int .i64)] where
  τ := tyTab types
  n := 66
  Γ := tab [(9, ⟨[.v kLabel], [.o 39 kBlock false, .v (.int .i64)], fun x => label_Blocks d x⟩), (19, ⟨[.v (.slice kBlock)], [.v (.slice (.int .u8))], fun x => label_Bytes d x⟩), (35, ⟨[.v (.slice kBlock)], [.v .bool], fun x => label_damaged d x⟩), (36, ⟨[.v (.slice (.int .u8)), .v (.int .i64)], [.v (.slice (.int .u8)), .v (.int .i64), .v (.int .i64)], fun x => frame_Next d x.1 x.2⟩), (37, ⟨[.v (.slice (.int .u8))], [.v kLabel, .v (.int .i64)], fun x => label_fields d x⟩), (38, ⟨[.v kBlock, .v kBlock], [.v .bool], fun x => label_same d x.1 x.2⟩)]
  res := [.cell 2 23, .tmp 3, .tmp 4]
  loopN := tab []
  loopR := tab [(0, ⟨⟨[(0, .p (.slice kBlock)), (2, .ad 2 0), (8, .ad 8 0), (9, .slw 1000608 false), (47, .slw 1000608 false), (48, .p (.int .i64)), (49, .p (.int .i64))], [(2, .agg 23 kLabel), (8, .agg 23 kLabel), (1000608, .list 39 kBlock)]⟩, ⟨[(2, .ad 2 0), (8, .ad 8 0), (9, .slw 1000608 false)], [(2, .agg 23 kLabel), (8, .agg 23 kLabel), (1000608, .list 39 kBlock)]⟩, fun x => label_Parse_l0 d d x.1 x.2.1 x.2.2.1 x.2.2.2.1 x.2.2.2.2.1 x.2.2.2.2.2⟩)]
  join := tab []
  loopX := tab []
  unroll := tab []
theorem label_Parse_G (d : Nat) : ∀ f sp, (label_Parse_e d).Γ f = some sp → SpecOK Try.prog f sp := tab_all (all_mem ⟨label_Blocks_ok d, label_Bytes_ok d, label_damaged_ok d, frame_Next_ok d, label_fields_ok d, label_same_ok d, trivial⟩)
theorem label_Parse_l0_ok (d : Nat) (C : Cx) (hC : (label_Parse_e d).n = C.n) : ∀ k, LoopR Try.prog C (label_Parse_e d) (loopAt (bodyOf Try.f17) 0) 0 ⟨⟨[(0, .p (.slice kBlock)), (2, .ad 2 0), (8, .ad 8 0), (9, .slw 1000608 false), (47, .slw 1000608 false), (48, .p (.int .i64)), (49, .p (.int .i64))], [(2, .agg 23 kLabel), (8, .agg 23 kLabel), (1000608, .list 39 kBlock)]⟩, ⟨[(2, .ad 2 0), (8, .ad 8 0), (9, .slw 1000608 false)], [(2, .agg 23 kLabel), (8, .agg 23 kLabel), (1000608, .list 39 kBlock)]⟩, fun x => label_Parse_l0 d k x.1 x.2.1 x.2.2.1 x.2.2.2.1 x.2.2.2.2.1 x.2.2.2.2.2⟩ :=
  loopR_ok (outs := [.v kLabel, .v (.int .i64), .v (.int .i64)]) ⟨[(0, .p (.slice kBlock)), (2, .ad 2 0), (8, .ad 8 0), (9, .slw 1000608 false), (47, .slw 1000608 false), (48, .p (.int .i64)), (49, .p (.int .i64))], [(2, .agg 23 kLabel), (8, .agg 23 kLabel), (1000608, .list 39 kBlock)]⟩ ⟨[(2, .ad 2 0), (8, .ad 8 0), (9, .slw 1000608 false)], [(2, .agg 23 kLabel), (8, .agg 23 kLabel), (1000608, .list 39 kBlock)]⟩ (fun k x => label_Parse_l0 d k x.1 x.2.1 x.2.2.1 x.2.2.2.1 x.2.2.2.2.1 x.2.2.2.2.2) (fun _ => label_Parse_e d) (fun _ => ⟨tau_ok, hC, label_Parse_G d⟩) mixed (fun _ => loops_of (l := []) (by kernel_rfl) (all_mem trivial)) (fun _ => rfl) (fun _ => rfl) (fun _ => rfl) (fun k x => by kernel_rfl)
theorem label_Parse_ok (d : Nat) : SpecOK Try.prog 17 ⟨[.v (.slice kBlock)], [.v kLabel, .v (.int .i64), .v (.int .i64)], fun x => label_Parse d x⟩ :=
  fn_ok (e := label_Parse_e d) (c := bodyOf Try.f17) Try.func17 (by kernel_rfl) (by decide +kernel) mixed tau_ok (label_Parse_G d) rfl (by decide) (by decide) (by kernel_rfl) rfl (by decide) (fun C hC => loops_of (l := [(0, loopAt (bodyOf Try.f17) 0)]) (by kernel_rfl) (all_mem ⟨⟨tab_none rfl, tab_none rfl, tab_one rfl (label_Parse_l0_ok d C hC d), tab_none rfl⟩, trivial⟩)) (fun x => by kernel_rfl)
def tapearchivelaw14_lives_e (d : Nat) : Env [.v .bool] where
  τ := tyTab types
  n := 78
  Γ := tab [(9, ⟨[.v kLabel], [.o 39 kBlock false, .v (.int .i64)], fun x => label_Blocks d x⟩), (14, ⟨[.v .str], [.v .bool], fun x => label_Name d x⟩), (17, ⟨[.v (.slice kBlock)], [.v kLabel, .v (.int .i64), .v (.int .i64)], fun x => label_Parse d x⟩), (22, ⟨[.v (.slice (.int .u8))], [.o 39 kBlock false], fun x => label_Divide d x⟩)]
  res := [.tmp 0]
  loopN := tab []
  loopR := tab []
  join := tab []
  loopX := tab []
  unroll := tab []
theorem tapearchivelaw14_lives_G (d : Nat) : ∀ f sp, (tapearchivelaw14_lives_e d).Γ f = some sp → SpecOK Try.prog f sp := tab_all (all_mem ⟨label_Blocks_ok d, label_Name_ok d, label_Parse_ok d, label_Divide_ok d, trivial⟩)
theorem tapearchivelaw14_lives_ok (d : Nat) : SpecOK Try.prog 8 ⟨[], [.v .bool], fun x => tapearchivelaw14_lives d⟩ :=
  fn_ok (e := tapearchivelaw14_lives_e d) (c := bodyOf Try.f8) Try.func8 (by kernel_rfl) (by decide +kernel) mixed tau_ok (tapearchivelaw14_lives_G d) rfl (by decide) (by decide) (by kernel_rfl) rfl (by decide) (fun C hC => loops_of (l := []) (by kernel_rfl) (all_mem trivial)) (fun x => by kernel_rfl)
def tapearchiveref14_Name_e (d : Nat) : Env [.v .bool] where
  τ := tyTab types
  n := 51
  Γ := tab []
  res := [.tmp 2]
  loopN := tab []
  loopR := tab [(0, ⟨⟨[(0, .p .str), (3, .p (.int .i64))], []⟩, ⟨[], []⟩, fun x => tapearchiveref14_Name_l0 d d x.1 x.2⟩)]
  join := tab [(3, ⟨[(0, .p .str)], []⟩)]
  loopX := tab []
  unroll := tab []
theorem tapearchiveref14_Name_G (d : Nat) : ∀ f sp, (tapearchiveref14_Name_e d).Γ f = some sp → SpecOK Try.prog f sp := tab_all (all_mem trivial)
theorem tapearchiveref14_Name_l0_ok (d : Nat) (C : Cx) (hC : (tapearchiveref14_Name_e d).n = C.n) : ∀ k, LoopR Try.prog C (tapearchiveref14_Name_e d) (loopAt (bodyOf Try.f15) 0) 0 ⟨⟨[(0, .p .str), (3, .p (.int .i64))], []⟩, ⟨[], []⟩, fun x => tapearchiveref14_Name_l0 d k x.1 x.2⟩ :=
  loopR_ok (outs := [.v .bool]) ⟨[(0, .p .str), (3, .p (.int .i64))], []⟩ ⟨[], []⟩ (fun k x => tapearchiveref14_Name_l0 d k x.1 x.2) (fun _ => tapearchiveref14_Name_e d) (fun _ => ⟨tau_ok, hC, tapearchiveref14_Name_G d⟩) mixed (fun _ => loops_of (l := []) (by kernel_rfl) (all_mem trivial)) (fun _ => rfl) (fun _ => rfl) (fun _ => rfl) (fun k x => by kernel_rfl)
theorem tapearchiveref14_Name_ok (d : Nat) : SpecOK Try.prog 15 ⟨[.v .str], [.v .bool], fun x => tapearchiveref14_Name d x⟩ :=
  fn_ok (e := tapearchiveref14_Name_e d) (c := bodyOf Try.f15) Try.func15 (by kernel_rfl) (by decide +kernel) mixed tau_ok (tapearchiveref14_Name_G d) rfl (by decide) (by decide) (by kernel_rfl) rfl (by decide) (fun C hC => loops_of (l := [(0, loopAt (bodyOf Try.f15) 0)]) (by kernel_rfl) (all_mem ⟨⟨tab_none rfl, tab_none rfl, tab_one rfl (tapearchiveref14_Name_l0_ok d C hC d), tab_none rfl⟩, trivial⟩)) (fun x => by kernel_rfl)
def tapearchiveref14_Barcode_e (d : Nat) : Env [.v .bool] where
  τ := tyTab types
  n := 37
  Γ := tab []
  res := [.tmp 2]
  loopN := tab []
  loopR := tab [(0, ⟨⟨[(0, .p .str), (3, .p (.int .i64))], []⟩, ⟨[], []⟩, fun x => tapearchiveref14_Barcode_l0 d d x.1 x.2⟩)]
  join := tab [(3, ⟨[(0, .p .str)], []⟩)]
  loopX := tab []
  unroll := tab []
theorem tapearchiveref14_Barcode_G (d : Nat) : ∀ f sp, (tapearchiveref14_Barcode_e d).Γ f = some sp → SpecOK Try.prog f sp := tab_all (all_mem trivial)
theorem tapearchiveref14_Barcode_l0_ok (d : Nat) (C : Cx) (hC : (tapearchiveref14_Barcode_e d).n = C.n) : ∀ k, LoopR Try.prog C (tapearchiveref14_Barcode_e d) (loopAt (bodyOf Try.f30) 0) 0 ⟨⟨[(0, .p .str), (3, .p (.int .i64))], []⟩, ⟨[], []⟩, fun x => tapearchiveref14_Barcode_l0 d k x.1 x.2⟩ :=
  loopR_ok (outs := [.v .bool]) ⟨[(0, .p .str), (3, .p (.int .i64))], []⟩ ⟨[], []⟩ (fun k x => tapearchiveref14_Barcode_l0 d k x.1 x.2) (fun _ => tapearchiveref14_Barcode_e d) (fun _ => ⟨tau_ok, hC, tapearchiveref14_Barcode_G d⟩) mixed (fun _ => loops_of (l := []) (by kernel_rfl) (all_mem trivial)) (fun _ => rfl) (fun _ => rfl) (fun _ => rfl) (fun k x => by kernel_rfl)
theorem tapearchiveref14_Barcode_ok (d : Nat) : SpecOK Try.prog 30 ⟨[.v .str], [.v .bool], fun x => tapearchiveref14_Barcode d x⟩ :=
  fn_ok (e := tapearchiveref14_Barcode_e d) (c := bodyOf Try.f30) Try.func30 (by kernel_rfl) (by decide +kernel) mixed tau_ok (tapearchiveref14_Barcode_G d) rfl (by decide) (by decide) (by kernel_rfl) rfl (by decide) (fun C hC => loops_of (l := [(0, loopAt (bodyOf Try.f30) 0)]) (by kernel_rfl) (all_mem ⟨⟨tab_none rfl, tab_none rfl, tab_one rfl (tapearchiveref14_Barcode_l0_ok d C hC d), tab_none rfl⟩, trivial⟩)) (fun x => by kernel_rfl)
def tapearchiveref14_Valid_e (d : Nat) : Env [.v .bool] where
  τ := tyTab types
  n := 31
  Γ := tab [(15, ⟨[.v .str], [.v .bool], fun x => tapearchiveref14_Name d x⟩), (30, ⟨[.v .str], [.v .bool], fun x => tapearchiveref14_Barcode d x⟩)]
  res := [.tmp 2]
  loopN := tab []
  loopR := tab []
  join := tab []
  loopX := tab []
  unroll := tab []
theorem tapearchiveref14_Valid_G (d : Nat) : ∀ f sp, (tapearchiveref14_Valid_e d).Γ f = some sp → SpecOK Try.prog f sp := tab_all (all_mem ⟨tapearchiveref14_Name_ok d, tapearchiveref14_Barcode_ok d, trivial⟩)
theorem tapearchiveref14_Valid_ok (d : Nat) : SpecOK Try.prog 13 ⟨[.v kLabel], [.v .bool], fun x => tapearchiveref14_Valid d x⟩ :=
  fn_ok (e := tapearchiveref14_Valid_e d) (c := bodyOf Try.f13) Try.func13 (by kernel_rfl) (by decide +kernel) mixed tau_ok (tapearchiveref14_Valid_G d) rfl (by decide) (by decide) (by kernel_rfl) rfl (by decide) (fun C hC => loops_of (l := []) (by kernel_rfl) (all_mem trivial)) (fun x => by kernel_rfl)
def tapearchiveref02_PutUint_e (d : Nat) : Env [.o 5 (.int .u8) false] where
  τ := tyTab types
  n := 25
  Γ := tab []
  res := [.tmp 4]
  loopN := tab [(0, ⟨⟨[(1, .p (.int .u64)), (5, .slw 6 false)], [(6, .list 5 (.int .u8))]⟩, ⟨[(1, .p (.int .u64)), (5, .slw 6 false)], [(6, .list 5 (.int .u8))]⟩, fun x => tapearchiveref02_PutUint_l0 d d x.1 x.2⟩)]
  loopR := tab []
  join := tab []
  loopX := tab []
  unroll := tab []
theorem tapearchiveref02_PutUint_G (d : Nat) : ∀ f sp, (tapearchiveref02_PutUint_e d).Γ f = some sp → SpecOK Try.prog f sp := tab_all (all_mem trivial)
theorem tapearchiveref02_PutUint_l0_ok (d : Nat) (C : Cx) (hC : (tapearchiveref02_PutUint_e d).n = C.n) : ∀ k, LoopN Try.prog C (loopAt (bodyOf Try.f46) 0) 0 ⟨⟨[(1, .p (.int .u64)), (5, .slw 6 false)], [(6, .list 5 (.int .u8))]⟩, ⟨[(1, .p (.int .u64)), (5, .slw 6 false)], [(6, .list 5 (.int .u8))]⟩, fun x => tapearchiveref02_PutUint_l0 d k x.1 x.2⟩ :=
  loopN_ok (outs := [.o 5 (.int .u8) false]) ⟨[(1, .p (.int .u64)), (5, .slw 6 false)], [(6, .list 5 (.int .u8))]⟩ ⟨[(1, .p (.int .u64)), (5, .slw 6 false)], [(6, .list 5 (.int .u8))]⟩ (fun k x => tapearchiveref02_PutUint_l0 d k x.1 x.2) (fun _ => tapearchiveref02_PutUint_e d) (fun _ => ⟨tau_ok, hC, tapearchiveref02_PutUint_G d⟩) mixed (fun _ => loops_of (l := []) (by kernel_rfl) (all_mem trivial)) (fun _ => rfl) (fun k x => by kernel_rfl)
theorem tapearchiveref02_PutUint_ok (d : Nat) : SpecOK Try.prog 46 ⟨[.v (.slice (.int .u8)), .v (.int .u64)], [.o 5 (.int .u8) false], fun x => tapearchiveref02_PutUint d x.1 x.2⟩ :=
  fn_ok (e := tapearchiveref02_PutUint_e d) (c := bodyOf Try.f46) Try.func46 (by kernel_rfl) (by decide +kernel) mixed tau_ok (tapearchiveref02_PutUint_G d) rfl (by decide) (by decide) (by kernel_rfl) rfl (by decide) (fun C hC => loops_of (l := [(0, loopAt (bodyOf Try.f46) 0)]) (by kernel_rfl) (all_mem ⟨⟨tab_none rfl, tab_one rfl (tapearchiveref02_PutUint_l0_ok d C hC d), tab_none rfl, tab_none rfl⟩, trivial⟩)) (fun x => by kernel_rfl)
def tapearchiveref02_PutText_e (d : Nat) : Env [.o 5 (.int .u8) false] where
  τ := tyTab types
  n := 12
  Γ := tab [(46, ⟨[.v (.slice (.int .u8)), .v (.int .u64)], [.o 5 (.int .u8) false], fun x => tapearchiveref02_PutUint d x.1 x.2⟩)]
  res := [.tmp 4]
  loopN := tab []
  loopR := tab []
  join := tab []
  loopX := tab []
  unroll := tab []
theorem tapearchiveref02_PutText_G (d : Nat) : ∀ f sp, (tapearchiveref02_PutText_e d).Γ f = some sp → SpecOK Try.prog f sp := tab_all (all_mem ⟨tapearchiveref02_PutUint_ok d, trivial⟩)
theorem tapearchiveref02_PutText_ok (d : Nat) : SpecOK Try.prog 25 ⟨[.v (.slice (.int .u8)), .v .str], [.o 5 (.int .u8) false], fun x => tapearchiveref02_PutText d x.1 x.2⟩ :=
  fn_ok (e := tapearchiveref02_PutText_e d) (c := bodyOf Try.f25) Try.func25 (by kernel_rfl) (by decide +kernel) mixed tau_ok (tapearchiveref02_PutText_G d) rfl (by decide) (by decide) (by kernel_rfl) rfl (by decide) (fun C hC => loops_of (l := []) (by kernel_rfl) (all_mem trivial)) (fun x => by kernel_rfl)
def tapearchiveref02_Code_e (d : Nat) : Env [.v (.int .u64)] where
  τ := tyTab types
  n := 14
  Γ := tab []
  res := [.tmp 2]
  loopN := tab []
  loopR := tab []
  join := tab []
  loopX := tab []
  unroll := tab []
theorem tapearchiveref02_Code_G (d : Nat) : ∀ f sp, (tapearchiveref02_Code_e d).Γ f = some sp → SpecOK Try.prog f sp := tab_all (all_mem trivial)
theorem tapearchiveref02_Code_ok (d : Nat) : SpecOK Try.prog 47 ⟨[.v (.int .i64)], [.v (.int .u64)], fun x => tapearchiveref02_Code d x⟩ :=
  fn_ok (e := tapearchiveref02_Code_e d) (c := bodyOf Try.f47) Try.func47 (by kernel_rfl) (by decide +kernel) mixed tau_ok (tapearchiveref02_Code_G d) rfl (by decide) (by decide) (by kernel_rfl) rfl (by decide) (fun C hC => loops_of (l := []) (by kernel_rfl) (all_mem trivial)) (fun x => by kernel_rfl)
def tapearchiveref02_PutInt_e (d : Nat) : Env [.o 5 (.int .u8) false] where
  τ := tyTab types
  n := 9
  Γ := tab [(46, ⟨[.v (.slice (.int .u8)), .v (.int .u64)], [.o 5 (.int .u8) false], fun x => tapearchiveref02_PutUint d x.1 x.2⟩), (47, ⟨[.v (.int .i64)], [.v (.int .u64)], fun x => tapearchiveref02_Code d x⟩)]
  res := [.tmp 4]
  loopN := tab []
  loopR := tab []
  join := tab []
  loopX := tab []
  unroll := tab []
theorem tapearchiveref02_PutInt_G (d : Nat) : ∀ f sp, (tapearchiveref02_PutInt_e d).Γ f = some sp → SpecOK Try.prog f sp := tab_all (all_mem ⟨tapearchiveref02_PutUint_ok d, tapearchiveref02_Code_ok d, trivial⟩)
theorem tapearchiveref02_PutInt_ok (d : Nat) : SpecOK Try.prog 26 ⟨[.v (.slice (.int .u8)), .v (.int .i64)], [.o 5 (.int .u8) false], fun x => tapearchiveref02_PutInt d x.1 x.2⟩ :=
  fn_ok (e := tapearchiveref02_PutInt_e d) (c := bodyOf Try.f26) Try.func26 (by kernel_rfl) (by decide +kernel) mixed tau_ok (tapearchiveref02_PutInt_G d) rfl (by decide) (by decide) (by kernel_rfl) rfl (by decide) (fun C hC => loops_of (l := []) (by kernel_rfl) (all_mem trivial)) (fun x => by kernel_rfl)
def tapearchiveref03_four_e (d : Nat) : Env [.o 5 (.int .u8) true] where
  τ := tyTab types
  n := 18
  Γ := tab []
  res := [.tmp 2]
  loopN := tab []
  loopR := tab []
  join := tab []
  loopX := tab []
  unroll := tab []
theorem tapearchiveref03_four_G (d : Nat) : ∀ f sp, (tapearchiveref03_four_e d).Γ f = some sp → SpecOK Try.prog f sp := tab_all (all_mem trivial)
theorem tapearchiveref03_four_ok (d : Nat) : SpecOK Try.prog 48 ⟨[.v (.int .i64)], [.o 5 (.int .u8) true], fun x => tapearchiveref03_four d x⟩ :=
  fn_ok (e := tapearchiveref03_four_e d) (c := bodyOf Try.f48) Try.func48 (by kernel_rfl) (by decide +kernel) mixed tau_ok (tapearchiveref03_four_G d) rfl (by decide) (by decide) (by kernel_rfl) rfl (by decide) (fun C hC => loops_of (l := []) (by kernel_rfl) (all_mem trivial)) (fun x => by kernel_rfl)
def tapearchiveref01_step_e (d : Nat) : Env [.v (.int .u32)] where
  τ := tyTab types
  n := 11
  Γ := tab []
  res := [.tmp 2]
  loopN := tab []
  loopR := tab []
  join := tab []
  loopX := tab []
  unroll := tab []
theorem tapearchiveref01_step_G (d : Nat) : ∀ f sp, (tapearchiveref01_step_e d).Γ f = some sp → SpecOK Try.prog f sp := tab_all (all_mem trivial)
theorem tapearchiveref01_step_ok (d : Nat) : SpecOK Try.prog 71 ⟨[.v (.int .u32)], [.v (.int .u32)], fun x => tapearchiveref01_step d x⟩ :=
  fn_ok (e := tapearchiveref01_step_e d) (c := bodyOf Try.f71) Try.func71 (by kernel_rfl) (by decide +kernel) mixed tau_ok (tapearchiveref01_step_G d) rfl (by decide) (by decide) (by kernel_rfl) rfl (by decide) (fun C hC => loops_of (l := []) (by kernel_rfl) (all_mem trivial)) (fun x => by kernel_rfl)
def tapearchiveref01_after_e (d : Nat) : Env [.v (.int .u32)] where
  τ := tyTab types
  n := 17
  Γ := tab [(71, ⟨[.v (.int .u32)], [.v (.int .u32)], fun x => tapearchiveref01_step d x⟩)]
  res := [.tmp 4]
  loopN := tab [(0, ⟨⟨[(0, .p (.int .u32)), (5, .p (.int .i64))], []⟩, ⟨[(0, .p (.int .u32))], []⟩, fun x => tapearchiveref01_after_l0 d d x.1 x.2⟩)]
  loopR := tab []
  join := tab []
  loopX := tab []
  unroll := tab []
theorem tapearchiveref01_after_G (d : Nat) : ∀ f sp, (tapearchiveref01_after_e d).Γ f = some sp → SpecOK Try.prog f sp := tab_all (all_mem ⟨tapearchiveref01_step_ok d, trivial⟩)
theorem tapearchiveref01_after_l0_ok (d : Nat) (C : Cx) (hC : (tapearchiveref01_after_e d).n = C.n) : ∀ k, LoopN Try.prog C (loopAt (bodyOf Try.f70) 0) 0 ⟨⟨[(0, .p (.int .u32)), (5, .p (.int .i64))], []⟩, ⟨[(0, .p (.int .u32))], []⟩, fun x => tapearchiveref01_after_l0 d k x.1 x.2⟩ :=
  loopN_ok (outs := [.v (.int .u32)]) ⟨[(0, .p (.int .u32)), (5, .p (.int .i64))], []⟩ ⟨[(0, .p (.int .u32))], []⟩ (fun k x => tapearchiveref01_after_l0 d k x.1 x.2) (fun _ => tapearchiveref01_after_e d) (fun _ => ⟨tau_ok, hC, tapearchiveref01_after_G d⟩) mixed (fun _ => loops_of (l := []) (by kernel_rfl) (all_mem trivial)) (fun _ => rfl) (fun k x => by kernel_rfl)
theorem tapearchiveref01_after_ok (d : Nat) : SpecOK Try.prog 70 ⟨[.v (.int .u32), .v (.int .u8)], [.v (.int .u32)], fun x => tapearchiveref01_after d x.1 x.2⟩ :=
  fn_ok (e := tapearchiveref01_after_e d) (c := bodyOf Try.f70) Try.func70 (by kernel_rfl) (by decide +kernel) mixed tau_ok (tapearchiveref01_after_G d) rfl (by decide) (by decide) (by kernel_rfl) rfl (by decide) (fun C hC => loops_of (l := [(0, loopAt (bodyOf Try.f70) 0)]) (by kernel_rfl) (all_mem ⟨⟨tab_none rfl, tab_one rfl (tapearchiveref01_after_l0_ok d C hC d), tab_none rfl, tab_none rfl⟩, trivial⟩)) (fun x => by kernel_rfl)
def tapearchiveref01_Update_e (d : Nat) : Env [.v (.int .u32)] where
  τ := tyTab types
  n := 23
  Γ := tab [(70, ⟨[.v (.int .u32), .v (.int .u8)], [.v (.int .u32)], fun x => tapearchiveref01_after d x.1 x.2⟩)]
  res := [.tmp 4]
  loopN := tab [(0, ⟨⟨[(1, .p (.slice (.int .u8))), (5, .p (.int .u32)), (6, .p (.int .i64))], []⟩, ⟨[(5, .p (.int .u32))], []⟩, fun x => tapearchiveref01_Update_l0 d d x.1 x.2.1 x.2.2⟩)]
  loopR := tab []
  join := tab []
  loopX := tab []
  unroll := tab []
theorem tapearchiveref01_Update_G (d : Nat) : ∀ f sp, (tapearchiveref01_Update_e d).Γ f = some sp → SpecOK Try.prog f sp := tab_all (all_mem ⟨tapearchiveref01_after_ok d, trivial⟩)
theorem tapearchiveref01_Update_l0_ok (d : Nat) (C : Cx) (hC : (tapearchiveref01_Update_e d).n = C.n) : ∀ k, LoopN Try.prog C (loopAt (bodyOf Try.f68) 0) 0 ⟨⟨[(1, .p (.slice (.int .u8))), (5, .p (.int .u32)), (6, .p (.int .i64))], []⟩, ⟨[(5, .p (.int .u32))], []⟩, fun x => tapearchiveref01_Update_l0 d k x.1 x.2.1 x.2.2⟩ :=
  loopN_ok (outs := [.v (.int .u32)]) ⟨[(1, .p (.slice (.int .u8))), (5, .p (.int .u32)), (6, .p (.int .i64))], []⟩ ⟨[(5, .p (.int .u32))], []⟩ (fun k x => tapearchiveref01_Update_l0 d k x.1 x.2.1 x.2.2) (fun _ => tapearchiveref01_Update_e d) (fun _ => ⟨tau_ok, hC, tapearchiveref01_Update_G d⟩) mixed (fun _ => loops_of (l := []) (by kernel_rfl) (all_mem trivial)) (fun _ => rfl) (fun k x => by kernel_rfl)
theorem tapearchiveref01_Update_ok (d : Nat) : SpecOK Try.prog 68 ⟨[.v (.int .u32), .v (.slice (.int .u8))], [.v (.int .u32)], fun x => tapearchiveref01_Update d x.1 x.2⟩ :=
  fn_ok (e := tapearchiveref01_Update_e d) (c := bodyOf Try.f68) Try.func68 (by kernel_rfl) (by decide +kernel) mixed tau_ok (tapearchiveref01_Update_G d) rfl (by decide) (by decide) (by kernel_rfl) rfl (by decide) (fun C hC => loops_of (l := [(0, loopAt (bodyOf Try.f68) 0)]) (by kernel_rfl) (all_mem ⟨⟨tab_none rfl, tab_one rfl (tapearchiveref01_Update_l0_ok d C hC d), tab_none rfl, tab_none rfl⟩, trivial⟩)) (fun x => by kernel_rfl)
def tapearchiveref01_Sum_e (d : Nat) : Env [.v (.int .u32)] where
  τ := tyTab types
  n := 5
  Γ := tab [(68, ⟨[.v (.int .u32), .v (.slice (.int .u8))], [.v (.int .u32)], fun x => tapearchiveref01_Update d x.1 x.2⟩)]
  res := [.tmp 2]
  loopN := tab []
  loopR := tab []
  join := tab []
  loopX := tab []
  unroll := tab []
theorem tapearchiveref01_Sum_G (d : Nat) : ∀ f sp, (tapearchiveref01_Sum_e d).Γ f = some sp → SpecOK Try.prog f sp := tab_all (all_mem ⟨tapearchiveref01_Update_ok d, trivial⟩)
theorem tapearchiveref01_Sum_ok (d : Nat) : SpecOK Try.prog 63 ⟨[.v (.slice (.int .u8))], [.v (.int .u32)], fun x => tapearchiveref01_Sum d x⟩ :=
  fn_ok (e := tapearchiveref01_Sum_e d) (c := bodyOf Try.f63) Try.func63 (by kernel_rfl) (by decide +kernel) mixed tau_ok (tapearchiveref01_Sum_G d) rfl (by decide) (by decide) (by kernel_rfl) rfl (by decide) (fun C hC => loops_of (l := []) (by kernel_rfl) (all_mem trivial)) (fun x => by kernel_rfl)
def tapearchiveref03_sum_e (d : Nat) : Env [.v (.slice (.int .u8))] where
  τ := tyTab types
  n := 14
  Γ := tab [(48, ⟨[.v (.int .i64)], [.o 5 (.int .u8) true], fun x => tapearchiveref03_four d x⟩), (63, ⟨[.v (.slice (.int .u8))], [.v (.int .u32)], fun x => tapearchiveref01_Sum d x⟩)]
  res := [.tmp 2]
  loopN := tab []
  loopR := tab []
  join := tab []
  loopX := tab []
  unroll := tab []
theorem tapearchiveref03_sum_G (d : Nat) : ∀ f sp, (tapearchiveref03_sum_e d).Γ f = some sp → SpecOK Try.prog f sp := tab_all (all_mem ⟨tapearchiveref03_four_ok d, tapearchiveref01_Sum_ok d, trivial⟩)
theorem tapearchiveref03_sum_ok (d : Nat) : SpecOK Try.prog 49 ⟨[.v (.slice (.int .u8))], [.v (.slice (.int .u8))], fun x => tapearchiveref03_sum d x⟩ :=
  fn_ok (e := tapearchiveref03_sum_e d) (c := bodyOf Try.f49) Try.func49 (by kernel_rfl) (by decide +kernel) mixed tau_ok (tapearchiveref03_sum_G d) rfl (by decide) (by decide) (by kernel_rfl) rfl (by decide) (fun C hC => loops_of (l := []) (by kernel_rfl) (all_mem trivial)) (fun x => by kernel_rfl)
def tapearchiveref03_Append_e (d : Nat) : Env [.o 5 (.int .u8) false, .v (.int .i64)] where
  τ := tyTab types
  n := 29
  Γ := tab [(48, ⟨[.v (.int .i64)], [.o 5 (.int .u8) true], fun x => tapearchiveref03_four d x⟩), (49, ⟨[.v (.slice (.int .u8))], [.v (.slice (.int .u8))], fun x => tapearchiveref03_sum d x⟩)]
  res := [.tmp 4, .tmp 5]
  loopN := tab []
  loopR := tab []
  join := tab []
  loopX := tab []
  unroll := tab []
theorem tapearchiveref03_Append_G (d : Nat) : ∀ f sp, (tapearchiveref03_Append_e d).Γ f = some sp → SpecOK Try.prog f sp := tab_all (all_mem ⟨tapearchiveref03_four_ok d, tapearchiveref03_sum_ok d, trivial⟩)
theorem tapearchiveref03_Append_ok (d : Nat) : SpecOK Try.prog 27 ⟨[.v (.slice (.int .u8)), .v (.slice (.int .u8))], [.o 5 (.int .u8) false, .v (.int .i64)], fun x => tapearchiveref03_Append d x.1 x.2⟩ :=
  fn_ok (e := tapearchiveref03_Append_e d) (c := bodyOf Try.f27) Try.func27 (by kernel_rfl) (by decide +kernel) mixed tau_ok (tapearchiveref03_Append_G d) rfl (by decide) (by decide) (by kernel_rfl) rfl (by decide) (fun C hC => loops_of (l := []) (by kernel_rfl) (all_mem trivial)) (fun x => by kernel_rfl)
def tapearchiveref14_Divide_e (d : Nat) : Env [.o 39 kBlock false] where
  τ := tyTab types
  n := 25
  Γ := tab []
  res := [.tmp 2]
  loopN := tab [(0, ⟨⟨[(0, .p (.slice (.int .u8))), (3, .slw 6 false), (4, .p (.int .i64))], [(6, .list 39 kBlock)]⟩, ⟨[(3, .slw 6 false)], [(6, .list 39 kBlock)]⟩, fun x => tapearchiveref14_Divide_l0 d d x.1 x.2.1 x.2.2⟩)]
  loopR := tab []
  join := tab []
  loopX := tab []
  unroll := tab []
theorem tapearchiveref14_Divide_G (d : Nat) : ∀ f sp, (tapearchiveref14_Divide_e d).Γ f = some sp → SpecOK Try.prog f sp := tab_all (all_mem trivial)
theorem tapearchiveref14_Divide_l0_ok (d : Nat) (C : Cx) (hC : (tapearchiveref14_Divide_e d).n = C.n) : ∀ k, LoopN Try.prog C (loopAt (bodyOf Try.f28) 0) 0 ⟨⟨[(0, .p (.slice (.int .u8))), (3, .slw 6 false), (4, .p (.int .i64))], [(6, .list 39 kBlock)]⟩, ⟨[(3, .slw 6 false)], [(6, .list 39 kBlock)]⟩, fun x => tapearchiveref14_Divide_l0 d k x.1 x.2.1 x.2.2⟩ :=
  loopN_ok (outs := [.o 39 kBlock false]) ⟨[(0, .p (.slice (.int .u8))), (3, .slw 6 false), (4, .p (.int .i64))], [(6, .list 39 kBlock)]⟩ ⟨[(3, .slw 6 false)], [(6, .list 39 kBlock)]⟩ (fun k x => tapearchiveref14_Divide_l0 d k x.1 x.2.1 x.2.2) (fun _ => tapearchiveref14_Divide_e d) (fun _ => ⟨tau_ok, hC, tapearchiveref14_Divide_G d⟩) mixed (fun _ => loops_of (l := []) (by kernel_rfl) (all_mem trivial)) (fun _ => rfl) (fun k x => by kernel_rfl)
theorem tapearchiveref14_Divide_ok (d : Nat) : SpecOK Try.prog 28 ⟨[.v (.slice (.int .u8))], [.o 39 kBlock false], fun x => tapearchiveref14_Divide d x⟩ :=
  fn_ok (e := tapearchiveref14_Divide_e d) (c := bodyOf Try.f28) Try.func28 (by kernel_rfl) (by decide +kernel) mixed tau_ok (tapearchiveref14_Divide_G d) rfl (by decide) (by decide) (by kernel_rfl) rfl (by decide) (fun C hC => loops_of (l := [(0, loopAt (bodyOf Try.f28) 0)]) (by kernel_rfl) (all_mem ⟨⟨tab_none rfl, tab_one rfl (tapearchiveref14_Divide_l0_ok d C hC d), tab_none rfl, tab_none rfl⟩, trivial⟩)) (fun x => by kernel_rfl)
def tapearchiveref14_Blocks_e (d : Nat) : Env [.v (.slice kBlock), .v (.int .i64)] where
  τ := tyTab types
  n := 37
  Γ := tab [(13, ⟨[.v kLabel], [.v .bool], fun x => tapearchiveref14_Valid d x⟩), (25, ⟨[.v (.slice (.int .u8)), .v .str], [.o 5 (.int .u8) false], fun x => tapearchiveref02_PutText d x.1 x.2⟩), (26, ⟨[.v (.slice (.int .u8)), .v (.int .i64)], [.o 5 (.int .u8) false], fun x => tapearchiveref02_PutInt d x.1 x.2⟩), (27, ⟨[.v (.slice (.int .u8)), .v (.slice (.int .u8))], [.o 5 (.int .u8) false, .v (.int .i64)], fun x => tapearchiveref03_Append d x.1 x.2⟩), (28, ⟨[.v (.slice (.int .u8))], [.o 39 kBlock false], fun x => tapearchiveref14_Divide d x⟩)]
  res := [.tmp 2, .tmp 3]
  loopN := tab []
  loopR := tab []
  join := tab []
  loopX := tab []
  unroll := tab []
theorem tapearchiveref14_Blocks_G (d : Nat) : ∀ f sp, (tapearchiveref14_Blocks_e d).Γ f = some sp → SpecOK Try.prog f sp := tab_all (all_mem ⟨tapearchiveref14_Valid_ok d, tapearchiveref02_PutText_ok d, tapearchiveref02_PutInt_ok d, tapearchiveref03_Append_ok d, tapearchiveref14_Divide_ok d, trivial⟩)
theorem tapearchiveref14_Blocks_ok (d : Nat) : SpecOK Try.prog 10 ⟨[.v kLabel], [.v (.slice kBlock), .v (.int .i64)], fun x => tapearchiveref14_Blocks d x⟩ :=
  fn_ok (e := tapearchiveref14_Blocks_e d) (c := bodyOf Try.f10) Try.func10 (by kernel_rfl) (by decide +kernel) mixed tau_ok (tapearchiveref14_Blocks_G d) rfl (by decide) (by decide) (by kernel_rfl) rfl (by decide) (fun C hC => loops_of (l := []) (by kernel_rfl) (all_mem trivial)) (fun x => by kernel_rfl)
def tapearchiveref14_Same_e (d : Nat) : Env [.v .bool] where
  τ := tyTab types
  n := 56
  Γ := tab []
  res := [.tmp 4]
  loopN := tab []
  loopR := tab [(0, ⟨⟨[(0, .p (.slice kBlock)), (1, .p (.slice kBlock)), (5, .p (.int .i64))], []⟩, ⟨[], []⟩, fun x => tapearchiveref14_Same_l0 d d x.1 x.2.1 x.2.2⟩)]
  join := tab []
  loopX := tab []
  unroll := tab []
theorem tapearchiveref14_Same_G (d : Nat) : ∀ f sp, (tapearchiveref14_Same_e d).Γ f = some sp → SpecOK Try.prog f sp := tab_all (all_mem trivial)
theorem tapearchiveref14_Same_l0_ok (d : Nat) (C : Cx) (hC : (tapearchiveref14_Same_e d).n = C.n) : ∀ k, LoopR Try.prog C (tapearchiveref14_Same_e d) (loopAt (bodyOf Try.f11) 0) 0 ⟨⟨[(0, .p (.slice kBlock)), (1, .p (.slice kBlock)), (5, .p (.int .i64))], []⟩, ⟨[], []⟩, fun x => tapearchiveref14_Same_l0 d k x.1 x.2.1 x.2.2⟩ :=
  loopR_ok (outs := [.v .bool]) ⟨[(0, .p (.slice kBlock)), (1, .p (.slice kBlock)), (5, .p (.int .i64))], []⟩ ⟨[], []⟩ (fun k x => tapearchiveref14_Same_l0 d k x.1 x.2.1 x.2.2) (fun _ => tapearchiveref14_Same_e d) (fun _ => ⟨tau_ok, hC, tapearchiveref14_Same_G d⟩) mixed (fun _ => loops_of (l := []) (by kernel_rfl) (all_mem trivial)) (fun _ => rfl) (fun _ => rfl) (fun _ => rfl) (fun k x => by kernel_rfl)
theorem tapearchiveref14_Same_ok (d : Nat) : SpecOK Try.prog 11 ⟨[.v (.slice kBlock), .v (.slice kBlock)], [.v .bool], fun x => tapearchiveref14_Same d x.1 x.2⟩ :=
  fn_ok (e := tapearchiveref14_Same_e d) (c := bodyOf Try.f11) Try.func11 (by kernel_rfl) (by decide +kernel) mixed tau_ok (tapearchiveref14_Same_G d) rfl (by decide) (by decide) (by kernel_rfl) rfl (by decide) (fun C hC => loops_of (l := [(0, loopAt (bodyOf Try.f11) 0)]) (by kernel_rfl) (all_mem ⟨⟨tab_none rfl, tab_none rfl, tab_one rfl (tapearchiveref14_Same_l0_ok d C hC d), tab_none rfl⟩, trivial⟩)) (fun x => by kernel_rfl)
def tapearchivelaw14_LabelBlocks_e (d : Nat) : Env [.v .bool] where
  τ := tyTab types
  n := 56
  Γ := tab [(8, ⟨[], [.v .bool], fun x => tapearchivelaw14_lives d⟩), (9, ⟨[.v kLabel], [.o 39 kBlock false, .v (.int .i64)], fun x => label_Blocks d x⟩), (10, ⟨[.v kLabel], [.v (.slice kBlock), .v (.int .i64)], fun x => tapearchiveref14_Blocks d x⟩), (11, ⟨[.v (.slice kBlock), .v (.slice kBlock)], [.v .bool], fun x => tapearchiveref14_Same d x.1 x.2⟩), (12, ⟨[.v kLabel], [.v .bool], fun x => label_Valid d x⟩), (13, ⟨[.v kLabel], [.v .bool], fun x => tapearchiveref14_Valid d x⟩), (14, ⟨[.v .str], [.v .bool], fun x => label_Name d x⟩), (15, ⟨[.v .str], [.v .bool], fun x => tapearchiveref14_Name d x⟩)]
  res := [.tmp 4]
  loopN := tab []
  loopR := tab []
  join := tab [(5, ⟨[(1, .p .str), (2, .ad 2 0)], [(2, .agg 23 kLabel)]⟩)]
  loopX := tab []
  unroll := tab []
theorem tapearchivelaw14_LabelBlocks_G (d : Nat) : ∀ f sp, (tapearchivelaw14_LabelBlocks_e d).Γ f = some sp → SpecOK Try.prog f sp := tab_all (all_mem ⟨tapearchivelaw14_lives_ok d, label_Blocks_ok d, tapearchiveref14_Blocks_ok d, tapearchiveref14_Same_ok d, label_Valid_ok d, tapearchiveref14_Valid_ok d, label_Name_ok d, tapearchiveref14_Name_ok d, trivial⟩)
theorem tapearchivelaw14_LabelBlocks_ok (d : Nat) : SpecOK Try.prog 3 ⟨[.v kLabel, .v .str], [.v .bool], fun x => tapearchivelaw14_LabelBlocks d x.1 x.2⟩ :=
  fn_ok (e := tapearchivelaw14_LabelBlocks_e d) (c := bodyOf Try.f3) Try.func3 (by kernel_rfl) (by decide +kernel) mixed tau_ok (tapearchivelaw14_LabelBlocks_G d) rfl (by decide) (by decide) (by kernel_rfl) rfl (by decide) (fun C hC => loops_of (l := []) (by kernel_rfl) (all_mem trivial)) (fun x => by kernel_rfl)
def tapearchivelaw14_few_e (d : Nat) : Env [.v .bool] where
  τ := tyTab types
  n := 20
  Γ := tab []
  res := [.tmp 2]
  loopN := tab []
  loopR := tab [(0, ⟨⟨[(0, .p (.slice kBlock)), (3, .p (.int .i64))], []⟩, ⟨[], []⟩, fun x => tapearchivelaw14_few_l0 d d x.1 x.2⟩)]
  join := tab []
  loopX := tab []
  unroll := tab []
theorem tapearchivelaw14_few_G (d : Nat) : ∀ f sp, (tapearchivelaw14_few_e d).Γ f = some sp → SpecOK Try.prog f sp := tab_all (all_mem trivial)
theorem tapearchivelaw14_few_l0_ok (d : Nat) (C : Cx) (hC : (tapearchivelaw14_few_e d).n = C.n) : ∀ k, LoopR Try.prog C (tapearchivelaw14_few_e d) (loopAt (bodyOf Try.f16) 0) 0 ⟨⟨[(0, .p (.slice kBlock)), (3, .p (.int .i64))], []⟩, ⟨[], []⟩, fun x => tapearchivelaw14_few_l0 d k x.1 x.2⟩ :=
  loopR_ok (outs := [.v .bool]) ⟨[(0, .p (.slice kBlock)), (3, .p (.int .i64))], []⟩ ⟨[], []⟩ (fun k x => tapearchivelaw14_few_l0 d k x.1 x.2) (fun _ => tapearchivelaw14_few_e d) (fun _ => ⟨tau_ok, hC, tapearchivelaw14_few_G d⟩) mixed (fun _ => loops_of (l := []) (by kernel_rfl) (all_mem trivial)) (fun _ => rfl) (fun _ => rfl) (fun _ => rfl) (fun k x => by kernel_rfl)
theorem tapearchivelaw14_few_ok (d : Nat) : SpecOK Try.prog 16 ⟨[.v (.slice kBlock)], [.v .bool], fun x => tapearchivelaw14_few d x⟩ :=
  fn_ok (e := tapearchivelaw14_few_e d) (c := bodyOf Try.f16) Try.func16 (by kernel_rfl) (by decide +kernel) mixed tau_ok (tapearchivelaw14_few_G d) rfl (by decide) (by decide) (by kernel_rfl) rfl (by decide) (fun C hC => loops_of (l := [(0, loopAt (bodyOf Try.f16) 0)]) (by kernel_rfl) (all_mem ⟨⟨tab_none rfl, tab_none rfl, tab_one rfl (tapearchivelaw14_few_l0_ok d C hC d), tab_none rfl⟩, trivial⟩)) (fun x => by kernel_rfl)
def tapearchiveref14_Bytes_e (d : Nat) : Env [.v (.slice (.int .u8))] where
  τ := tyTab types
  n := 36
  Γ := tab []
  res := [.tmp 2]
  loopN := tab [(0, ⟨⟨[(0, .p (.slice kBlock)), (3, .slw 5 false), (4, .p (.int .i64))], [(5, .list 5 (.int .u8))]⟩, ⟨[(3, .slw 5 false)], [(5, .list 5 (.int .u8))]⟩, fun x => tapearchiveref14_Bytes_l0 d d x.1 x.2.1 x.2.2⟩)]
  loopR := tab []
  join := tab [(5, ⟨[(0, .p (.slice kBlock)), (3, .slw 5 false), (4, .p (.int .i64))], [(5, .list 5 (.int .u8))]⟩)]
  loopX := tab []
  unroll := tab []
theorem tapearchiveref14_Bytes_G (d : Nat) : ∀ f sp, (tapearchiveref14_Bytes_e d).Γ f = some sp → SpecOK Try.prog f sp := tab_all (all_mem trivial)
theorem tapearchiveref14_Bytes_l0_ok (d : Nat) (C : Cx) (hC : (tapearchiveref14_Bytes_e d).n = C.n) : ∀ k, LoopN Try.prog C (loopAt (bodyOf Try.f20) 0) 0 ⟨⟨[(0, .p (.slice kBlock)), (3, .slw 5 false), (4, .p (.int .i64))], [(5, .list 5 (.int .u8))]⟩, ⟨[(3, .slw 5 false)], [(5, .list 5 (.int .u8))]⟩, fun x => tapearchiveref14_Bytes_l0 d k x.1 x.2.1 x.2.2⟩ :=
  loopN_ok (outs := [.v (.slice (.int .u8))]) ⟨[(0, .p (.slice kBlock)), (3, .slw 5 false), (4, .p (.int .i64))], [(5, .list 5 (.int .u8))]⟩ ⟨[(3, .slw 5 false)], [(5, .list 5 (.int .u8))]⟩ (fun k x => tapearchiveref14_Bytes_l0 d k x.1 x.2.1 x.2.2) (fun _ => tapearchiveref14_Bytes_e d) (fun _ => ⟨tau_ok, hC, tapearchiveref14_Bytes_G d⟩) mixed (fun _ => loops_of (l := []) (by kernel_rfl) (all_mem trivial)) (fun _ => rfl) (fun k x => by kernel_rfl)
theorem tapearchiveref14_Bytes_ok (d : Nat) : SpecOK Try.prog 20 ⟨[.v (.slice kBlock)], [.v (.slice (.int .u8))], fun x => tapearchiveref14_Bytes d x⟩ :=
  fn_ok (e := tapearchiveref14_Bytes_e d) (c := bodyOf Try.f20) Try.func20 (by kernel_rfl) (by decide +kernel) mixed tau_ok (tapearchiveref14_Bytes_G d) rfl (by decide) (by decide) (by kernel_rfl) rfl (by decide) (fun C hC => loops_of (l := [(0, loopAt (bodyOf Try.f20) 0)]) (by kernel_rfl) (all_mem ⟨⟨tab_none rfl, tab_one rfl (tapearchiveref14_Bytes_l0_ok d C hC d), tab_none rfl, tab_none rfl⟩, trivial⟩)) (fun x => by kernel_rfl)
def tapearchiveref03_number_e (d : Nat) : Env [.v (.int .i64)] where
  τ := tyTab types
  n := 18
  Γ := tab []
  res := [.tmp 2]
  loopN := tab [(0, ⟨⟨[(0, .p (.slice (.int .u8))), (3, .p (.int .i64)), (4, .p (.int .i64))], []⟩, ⟨[(3, .p (.int .i64))], []⟩, fun x => tapearchiveref03_number_l0 d d x.1 x.2.1 x.2.2⟩)]
  loopR := tab []
  join := tab []
  loopX := tab []
  unroll := tab []
theorem tapearchiveref03_number_G (d : Nat) : ∀ f sp, (tapearchiveref03_number_e d).Γ f = some sp → SpecOK Try.prog f sp := tab_all (all_mem trivial)
theorem tapearchiveref03_number_l0_ok (d : Nat) (C : Cx) (hC : (tapearchiveref03_number_e d).n = C.n) : ∀ k, LoopN Try.prog C (loopAt (bodyOf Try.f55) 0) 0 ⟨⟨[(0, .p (.slice (.int .u8))), (3, .p (.int .i64)), (4, .p (.int .i64))], []⟩, ⟨[(3, .p (.int .i64))], []⟩, fun x => tapearchiveref03_number_l0 d k x.1 x.2.1 x.2.2⟩ :=
  loopN_ok (outs := [.v (.int .i64)]) ⟨[(0, .p (.slice (.int .u8))), (3, .p (.int .i64)), (4, .p (.int .i64))], []⟩ ⟨[(3, .p (.int .i64))], []⟩ (fun k x => tapearchiveref03_number_l0 d k x.1 x.2.1 x.2.2) (fun _ => tapearchiveref03_number_e d) (fun _ => ⟨tau_ok, hC, tapearchiveref03_number_G d⟩) mixed (fun _ => loops_of (l := []) (by kernel_rfl) (all_mem trivial)) (fun _ => rfl) (fun k x => by kernel_rfl)
theorem tapearchiveref03_number_ok (d : Nat) : SpecOK Try.prog 55 ⟨[.v (.slice (.int .u8))], [.v (.int .i64)], fun x => tapearchiveref03_number d x⟩ :=
  fn_ok (e := tapearchiveref03_number_e d) (c := bodyOf Try.f55) Try.func55 (by kernel_rfl) (by decide +kernel) mixed tau_ok (tapearchiveref03_number_G d) rfl (by decide) (by decide) (by kernel_rfl) rfl (by decide) (fun C hC => loops_of (l := [(0, loopAt (bodyOf Try.f55) 0)]) (by kernel_rfl) (all_mem ⟨⟨tab_none rfl, tab_one rfl (tapearchiveref03_number_l0_ok d C hC d), tab_none rfl, tab_none rfl⟩, trivial⟩)) (fun x => by kernel_rfl)
def tapearchiveref03_Next_e (d : Nat) : Env [.v (.slice (.int .u8)), .v (.int .i64), .v (.int .i64)] where
  τ := tyTab types
  n := 62
  Γ := tab [(49, ⟨[.v (.slice (.int .u8))], [.v (.slice (.int .u8))], fun x => tapearchiveref03_sum d x⟩), (55, ⟨[.v (.slice (.int .u8))], [.v (.int .i64)], fun x => tapearchiveref03_number d x⟩)]
  res := [.tmp 4, .tmp 5, .tmp 6]
  loopN := tab []
  loopR := tab []
  join := tab [(3, ⟨[(0, .p (.slice (.int .u8))), (1, .p (.int .i64))], []⟩), (8, ⟨[(1, .p (.int .i64)), (7, .p (.slice (.int .u8)))], []⟩)]
  loopX := tab []
  unroll := tab []
theorem tapearchiveref03_Next_G (d : Nat) : ∀ f sp, (tapearchiveref03_Next_e d).Γ f = some sp → SpecOK Try.prog f sp := tab_all (all_mem ⟨tapearchiveref03_sum_ok d, tapearchiveref03_number_ok d, trivial⟩)
theorem tapearchiveref03_Next_ok (d : Nat) : SpecOK Try.prog 39 ⟨[.v (.slice (.int .u8)), .v (.int .i64)], [.v (.slice (.int .u8)), .v (.int .i64), .v (.int .i64)], fun x => tapearchiveref03_Next d x.1 x.2⟩ :=
  fn_ok (e := tapearchiveref03_Next_e d) (c := bodyOf Try.f39) Try.func39 (by kernel_rfl) (by decide +kernel) mixed tau_ok (tapearchiveref03_Next_G d) rfl (by decide) (by decide) (by kernel_rfl) rfl (by decide) (fun C hC => loops_of (l := []) (by kernel_rfl) (all_mem trivial)) (fun x => by kernel_rfl)
def tapearchiveref02_Uint_e (d : Nat) : Env [.v (.int .u64), .v (.int .i64), .v (.int .i64)] where
  τ := tyTab types
  n := 68
  Γ := tab []
  res := [.tmp 4, .tmp 5, .tmp 6]
  loopN := tab []
  loopR := tab [(0, ⟨⟨[(0, .p (.slice (.int .u8))), (1, .p (.int .i64)), (7, .p (.int .u64)), (8, .p (.int .u64)), (9, .p (.int .i64))], []⟩, ⟨[], []⟩, fun x => tapearchiveref02_Uint_l0 d d x.1 x.2.1 x.2.2.1 x.2.2.2.1 x.2.2.2.2⟩)]
  join := tab [(3, ⟨[(0, .p (.slice (.int .u8))), (1, .p (.int .i64))], []⟩), (16, ⟨[(1, .p (.int .i64)), (7, .p (.int .u64)), (8, .p (.int .u64)), (9, .p (.int .i64)), (10, .p (.int .u8))], []⟩), (18, ⟨[(1, .p (.int .i64)), (7, .p (.int .u64)), (8, .p (.int .u64)), (9, .p (.int .i64)), (10, .p (.int .u8))], []⟩)]
  loopX := tab []
  unroll := tab []
theorem tapearchiveref02_Uint_G (d : Nat) : ∀ f sp, (tapearchiveref02_Uint_e d).Γ f = some sp → SpecOK Try.prog f sp := tab_all (all_mem trivial)
theorem tapearchiveref02_Uint_l0_ok (d : Nat) (C : Cx) (hC : (tapearchiveref02_Uint_e d).n = C.n) : ∀ k, LoopR Try.prog C (tapearchiveref02_Uint_e d) (loopAt (bodyOf Try.f66) 0) 0 ⟨⟨[(0, .p (.slice (.int .u8))), (1, .p (.int .i64)), (7, .p (.int .u64)), (8, .p (.int .u64)), (9, .p (.int .i64))], []⟩, ⟨[], []⟩, fun x => tapearchiveref02_Uint_l0 d k x.1 x.2.1 x.2.2.1 x.2.2.2.1 x.2.2.2.2⟩ :=
  loopR_ok (outs := [.v (.int .u64), .v (.int .i64), .v (.int .i64)]) ⟨[(0, .p (.slice (.int .u8))), (1, .p (.int .i64)), (7, .p (.int .u64)), (8, .p (.int .u64)), (9, .p (.int .i64))], []⟩ ⟨[], []⟩ (fun k x => tapearchiveref02_Uint_l0 d k x.1 x.2.1 x.2.2.1 x.2.2.2.1 x.2.2.2.2) (fun _ => tapearchiveref02_Uint_e d) (fun _ => ⟨tau_ok, hC, tapearchiveref02_Uint_G d⟩) mixed (fun _ => loops_of (l := []) (by kernel_rfl) (all_mem trivial)) (fun _ => rfl) (fun _ => rfl) (fun _ => rfl) (fun k x => by kernel_rfl)
theorem tapearchiveref02_Uint_ok (d : Nat) : SpecOK Try.prog 66 ⟨[.v (.slice (.int .u8)), .v (.int .i64)], [.v (.int .u64), .v (.int .i64), .v (.int .i64)], fun x => tapearchiveref02_Uint d x.1 x.2⟩ :=
  fn_ok (e := tapearchiveref02_Uint_e d) (c := bodyOf Try.f66) Try.func66 (by kernel_rfl) (by decide +kernel) mixed tau_ok (tapearchiveref02_Uint_G d) rfl (by decide) (by decide) (by kernel_rfl) rfl (by decide) (fun C hC => loops_of (l := [(0, loopAt (bodyOf Try.f66) 0)]) (by kernel_rfl) (all_mem ⟨⟨tab_none rfl, tab_none rfl, tab_one rfl (tapearchiveref02_Uint_l0_ok d C hC d), tab_none rfl⟩, trivial⟩)) (fun x => by kernel_rfl)
def tapearchiveref02_Text_e (d : Nat) : Env [.v .str, .v (.int .i64), .v (.int .i64)] where
  τ := tyTab types
  n := 49
  Γ := tab [(66, ⟨[.v (.slice (.int .u8)), .v (.int .i64)], [.v (.int .u64), .v (.int .i64), .v (.int .i64)], fun x => tapearchiveref02_Uint d x.1 x.2⟩)]
  res := [.tmp 6, .tmp 7, .tmp 8]
  loopN := tab []
  loopR := tab []
  join := tab [(6, ⟨[(0, .p (.slice (.int .u8))), (9, .p (.int .u64)), (10, .p (.int .i64))], []⟩)]
  loopX := tab []
  unroll := tab []
theorem tapearchiveref02_Text_G (d : Nat) : ∀ f sp, (tapearchiveref02_Text_e d).Γ f = some sp → SpecOK Try.prog f sp := tab_all (all_mem ⟨tapearchiveref02_Uint_ok d, trivial⟩)
theorem tapearchiveref02_Text_ok (d : Nat) : SpecOK Try.prog 56 ⟨[.v (.slice (.int .u8)), .v (.int .i64), .v (.int .i64)], [.v .str, .v (.int .i64), .v (.int .i64)], fun x => tapearchiveref02_Text d x.1 x.2.1 x.2.2⟩ :=
  fn_ok (e := tapearchiveref02_Text_e d) (c := bodyOf Try.f56) Try.func56 (by kernel_rfl) (by decide +kernel) mixed tau_ok (tapearchiveref02_Text_G d) rfl (by decide) (by decide) (by kernel_rfl) rfl (by decide) (fun C hC => loops_of (l := []) (by kernel_rfl) (all_mem trivial)) (fun x => by kernel_rfl)
def tapearchiveref02_Int_e (d : Nat) : Env [.v (.int .i64), .v (.int .i64), .v (.int .i64)] where
  τ := tyTab types
  n := 33
  Γ := tab [(66, ⟨[.v (.slice (.int .u8)), .v (.int .i64)], [.v (.int .u64), .v (.int .i64), .v (.int .i64)], fun x => tapearchiveref02_Uint d x.1 x.2⟩)]
  res := [.tmp 4, .tmp 5, .tmp 6]
  loopN := tab []
  loopR := tab []
  join := tab []
  loopX := tab []
  unroll := tab []
theorem tapearchiveref02_Int_G (d : Nat) : ∀ f sp, (tapearchiveref02_Int_e d).Γ f = some sp → SpecOK Try.prog f sp := tab_all (all_mem ⟨tapearchiveref02_Uint_ok d, trivial⟩)
theorem tapearchiveref02_Int_ok (d : Nat) : SpecOK Try.prog 57 ⟨[.v (.slice (.int .u8)), .v (.int .i64)], [.v (.int .i64), .v (.int .i64), .v (.int .i64)], fun x => tapearchiveref02_Int d x.1 x.2⟩ :=
  fn_ok (e := tapearchiveref02_Int_e d) (c := bodyOf Try.f57) Try.func57 (by kernel_rfl) (by decide +kernel) mixed tau_ok (tapearchiveref02_Int_G d) rfl (by decide) (by decide) (by kernel_rfl) rfl (by decide) (fun C hC => loops_of (l := []) (by kernel_rfl) (all_mem trivial)) (fun x => by kernel_rfl)
def tapearchiveref14_fields_e (d : Nat) : Env [.v kLabel, .v (.int .i64)] where
  τ := tyTab types
  n := 80
  Γ := tab [(13, ⟨[.v kLabel], [.v .bool], fun x => tapearchiveref14_Valid d x⟩), (56, ⟨[.v (.slice (.int .u8)), .v (.int .i64), .v (.int .i64)], [.v .str, .v (.int .i64), .v (.int .i64)], fun x => tapearchiveref02_Text d x.1 x.2.1 x.2.2⟩), (57, ⟨[.v (.slice (.int .u8)), .v (.int .i64)], [.v (.int .i64), .v (.int .i64), .v (.int .i64)], fun x => tapearchiveref02_Int d x.1 x.2⟩)]
  res := [.cell 2 23, .tmp 3]
  loopN := tab []
  loopR := tab []
  join := tab []
  loopX := tab []
  unroll := tab []
theorem tapearchiveref14_fields_G (d : Nat) : ∀ f sp, (tapearchiveref14_fields_e d).Γ f = some sp → SpecOK Try.prog f sp := tab_all (all_mem ⟨tapearchiveref14_Valid_ok d, tapearchiveref02_Text_ok d, tapearchiveref02_Int_ok d, trivial⟩)
theorem tapearchiveref14_fields_ok (d : Nat) : SpecOK Try.prog 40 ⟨[.v (.slice (.int .u8))], [.v kLabel, .v (.int .i64)], fun x => tapearchiveref14_fields d x⟩ :=
  fn_ok (e := tapearchiveref14_fields_e d) (c := bodyOf Try.f40) Try.func40 (by kernel_rfl) (by decide +kernel) mixed tau_ok (tapearchiveref14_fields_G d) rfl (by decide) (by decide) (by kernel_rfl) rfl (by decide) (fun C hC => loops_of (l := []) (by kernel_rfl) (all_mem trivial)) (fun x => by kernel_rfl)
def tapearchiveref14_Parse_e (d : Nat) : Env [.v kLabel, .v (.int .i64), .v (.int .i64)] where
  τ := tyTab types
  n := 72
  Γ := tab [(10, ⟨[.v kLabel], [.v (.slice kBlock), .v (.int .i64)], fun x => tapearchiveref14_Blocks d x⟩), (11, ⟨[.v (.slice kBlock), .v (.slice kBlock)], [.v .bool], fun x => tapearchiveref14_Same d x.1 x.2⟩), (20, ⟨[.v (.slice kBlock)], [.v (.slice (.int .u8))], fun x => tapearchiveref14_Bytes d x⟩), (39, ⟨[.v (.slice (.int .u8)), .v (.int .i64)], [.v (.slice (.int .u8)), .v (.int .i64), .v (.int .i64)], fun x => tapearchiveref03_Next d x.1 x.2⟩), (40, ⟨[.v (.slice (.int .u8))], [.v kLabel, .v (.int .i64)], fun x => tapearchiveref14_fields d x⟩)]
  res := [.cell 2 23, .tmp 3, .tmp 4]
  loopN := tab []
  loopR := tab [(0, ⟨⟨[(0, .p (.slice kBlock)), (2, .ad 2 0), (5, .p (.int .i64))], [(2, .agg 23 kLabel)]⟩, ⟨[(0, .p (.slice kBlock)), (2, .ad 2 0)], [(2, .agg 23 kLabel)]⟩, fun x => tapearchiveref14_Parse_l0 d d x.1 x.2.1 x.2.2⟩)]
  join := tab [(16, ⟨[(2, .ad 2 0), (9, .ad 9 0), (10, .p (.slice kBlock))], [(2, .agg 23 kLabel), (9, .agg 23 kLabel)]⟩)]
  loopX := tab []
  unroll := tab []
theorem tapearchiveref14_Parse_G (d : Nat) : ∀ f sp, (tapearchiveref14_Parse_e d).Γ f = some sp → SpecOK Try.prog f sp := tab_all (all_mem ⟨tapearchiveref14_Blocks_ok d, tapearchiveref14_Same_ok d, tapearchiveref14_Bytes_ok d, tapearchiveref03_Next_ok d, tapearchiveref14_fields_ok d, trivial⟩)
theorem tapearchiveref14_Parse_l0_ok (d : Nat) (C : Cx) (hC : (tapearchiveref14_Parse_e d).n = C.n) : ∀ k, LoopR Try.prog C (tapearchiveref14_Parse_e d) (loopAt (bodyOf Try.f18) 0) 0 ⟨⟨[(0, .p (.slice kBlock)), (2, .ad 2 0), (5, .p (.int .i64))], [(2, .agg 23 kLabel)]⟩, ⟨[(0, .p (.slice kBlock)), (2, .ad 2 0)], [(2, .agg 23 kLabel)]⟩, fun x => tapearchiveref14_Parse_l0 d k x.1 x.2.1 x.2.2⟩ :=
  loopR_ok (outs := [.v kLabel, .v (.int .i64), .v (.int .i64)]) ⟨[(0, .p (.slice kBlock)), (2, .ad 2 0), (5, .p (.int .i64))], [(2, .agg 23 kLabel)]⟩ ⟨[(0, .p (.slice kBlock)), (2, .ad 2 0)], [(2, .agg 23 kLabel)]⟩ (fun k x => tapearchiveref14_Parse_l0 d k x.1 x.2.1 x.2.2) (fun _ => tapearchiveref14_Parse_e d) (fun _ => ⟨tau_ok, hC, tapearchiveref14_Parse_G d⟩) mixed (fun _ => loops_of (l := []) (by kernel_rfl) (all_mem trivial)) (fun _ => rfl) (fun _ => rfl) (fun _ => rfl) (fun k x => by kernel_rfl)
theorem tapearchiveref14_Parse_ok (d : Nat) : SpecOK Try.prog 18 ⟨[.v (.slice kBlock)], [.v kLabel, .v (.int .i64), .v (.int .i64)], fun x => tapearchiveref14_Parse d x⟩ :=
  fn_ok (e := tapearchiveref14_Parse_e d) (c := bodyOf Try.f18) Try.func18 (by kernel_rfl) (by decide +kernel) mixed tau_ok (tapearchiveref14_Parse_G d) rfl (by decide) (by decide) (by kernel_rfl) rfl (by decide) (fun C hC => loops_of (l := [(0, loopAt (bodyOf Try.f18) 0)]) (by kernel_rfl) (all_mem ⟨⟨tab_none rfl, tab_none rfl, tab_one rfl (tapearchiveref14_Parse_l0_ok d C hC d), tab_none rfl⟩, trivial⟩)) (fun x => by kernel_rfl)
def tapearchivelaw14_LabelParses_e (d : Nat) : Env [.v .bool] where
  τ := tyTab types
  n := 48
  Γ := tab [(8, ⟨[], [.v .bool], fun x => tapearchivelaw14_lives d⟩), (16, ⟨[.v (.slice kBlock)], [.v .bool], fun x => tapearchivelaw14_few d x⟩), (17, ⟨[.v (.slice kBlock)], [.v kLabel, .v (.int .i64), .v (.int .i64)], fun x => label_Parse d x⟩), (18, ⟨[.v (.slice kBlock)], [.v kLabel, .v (.int .i64), .v (.int .i64)], fun x => tapearchiveref14_Parse d x⟩), (19, ⟨[.v (.slice kBlock)], [.v (.slice (.int .u8))], fun x => label_Bytes d x⟩), (20, ⟨[.v (.slice kBlock)], [.v (.slice (.int .u8))], fun x => tapearchiveref14_Bytes d x⟩)]
  res := [.tmp 2]
  loopN := tab []
  loopR := tab []
  join := tab []
  loopX := tab []
  unroll := tab []
theorem tapearchivelaw14_LabelParses_G (d : Nat) : ∀ f sp, (tapearchivelaw14_LabelParses_e d).Γ f = some sp → SpecOK Try.prog f sp := tab_all (all_mem ⟨tapearchivelaw14_lives_ok d, tapearchivelaw14_few_ok d, label_Parse_ok d, tapearchiveref14_Parse_ok d, label_Bytes_ok d, tapearchiveref14_Bytes_ok d, trivial⟩)
theorem tapearchivelaw14_LabelParses_ok (d : Nat) : SpecOK Try.prog 4 ⟨[.v (.slice kBlock)], [.v .bool], fun x => tapearchivelaw14_LabelParses d x⟩ :=
  fn_ok (e := tapearchivelaw14_LabelParses_e d) (c := bodyOf Try.f4) Try.func4 (by kernel_rfl) (by decide +kernel) mixed tau_ok (tapearchivelaw14_LabelParses_G d) rfl (by decide) (by decide) (by kernel_rfl) rfl (by decide) (fun C hC => loops_of (l := []) (by kernel_rfl) (all_mem trivial)) (fun x => by kernel_rfl)
def tapearchiveref14_Copied_e (d : Nat) : Env [.o 39 kBlock false] where
  τ := tyTab types
  n := 34
  Γ := tab []
  res := [.tmp 2]
  loopN := tab [(0, ⟨⟨[(0, .p (.slice kBlock)), (3, .slw 5 false), (4, .p (.int .i64))], [(5, .list 39 kBlock)]⟩, ⟨[(3, .slw 5 false)], [(5, .list 39 kBlock)]⟩, fun x => tapearchiveref14_Copied_l0 d d x.1 x.2.1 x.2.2⟩)]
  loopR := tab []
  join := tab []
  loopX := tab []
  unroll := tab []
theorem tapearchiveref14_Copied_G (d : Nat) : ∀ f sp, (tapearchiveref14_Copied_e d).Γ f = some sp → SpecOK Try.prog f sp := tab_all (all_mem trivial)
theorem tapearchiveref14_Copied_l0_ok (d : Nat) (C : Cx) (hC : (tapearchiveref14_Copied_e d).n = C.n) : ∀ k, LoopN Try.prog C (loopAt (bodyOf Try.f21) 0) 0 ⟨⟨[(0, .p (.slice kBlock)), (3, .slw 5 false), (4, .p (.int .i64))], [(5, .list 39 kBlock)]⟩, ⟨[(3, .slw 5 false)], [(5, .list 39 kBlock)]⟩, fun x => tapearchiveref14_Copied_l0 d k x.1 x.2.1 x.2.2⟩ :=
  loopN_ok (outs := [.o 39 kBlock false]) ⟨[(0, .p (.slice kBlock)), (3, .slw 5 false), (4, .p (.int .i64))], [(5, .list 39 kBlock)]⟩ ⟨[(3, .slw 5 false)], [(5, .list 39 kBlock)]⟩ (fun k x => tapearchiveref14_Copied_l0 d k x.1 x.2.1 x.2.2) (fun _ => tapearchiveref14_Copied_e d) (fun _ => ⟨tau_ok, hC, tapearchiveref14_Copied_G d⟩) mixed (fun _ => loops_of (l := []) (by kernel_rfl) (all_mem trivial)) (fun _ => rfl) (fun k x => by kernel_rfl)
theorem tapearchiveref14_Copied_ok (d : Nat) : SpecOK Try.prog 21 ⟨[.v (.slice kBlock)], [.o 39 kBlock false], fun x => tapearchiveref14_Copied d x⟩ :=
  fn_ok (e := tapearchiveref14_Copied_e d) (c := bodyOf Try.f21) Try.func21 (by kernel_rfl) (by decide +kernel) mixed tau_ok (tapearchiveref14_Copied_G d) rfl (by decide) (by decide) (by kernel_rfl) rfl (by decide) (fun C hC => loops_of (l := [(0, loopAt (bodyOf Try.f21) 0)]) (by kernel_rfl) (all_mem ⟨⟨tab_none rfl, tab_one rfl (tapearchiveref14_Copied_l0_ok d C hC d), tab_none rfl, tab_none rfl⟩, trivial⟩)) (fun x => by kernel_rfl)
def tapearchivelaw14_LabelRoundTrip_e (d : Nat) : Env [.v .bool] where
  τ := tyTab types
  n := 79
  Γ := tab [(8, ⟨[], [.v .bool], fun x => tapearchivelaw14_lives d⟩), (9, ⟨[.v kLabel], [.o 39 kBlock false, .v (.int .i64)], fun x => label_Blocks d x⟩), (12, ⟨[.v kLabel], [.v .bool], fun x => label_Valid d x⟩), (16, ⟨[.v (.slice kBlock)], [.v .bool], fun x => tapearchivelaw14_few d x⟩), (17, ⟨[.v (.slice kBlock)], [.v kLabel, .v (.int .i64), .v (.int .i64)], fun x => label_Parse d x⟩), (21, ⟨[.v (.slice kBlock)], [.o 39 kBlock false], fun x => tapearchiveref14_Copied d x⟩)]
  res := [.tmp 4]
  loopN := tab []
  loopR := tab []
  join := tab [(5, ⟨[(1, .p (.slice kBlock)), (2, .ad 2 0)], [(2, .agg 23 kLabel)]⟩), (10, ⟨[(1, .p (.slice kBlock)), (2, .ad 2 0), (5, .slw 1000432 false)], [(2, .agg 23 kLabel), (1000432, .list 39 kBlock)]⟩)]
  loopX := tab []
  unroll := tab []
theorem tapearchivelaw14_LabelRoundTrip_G (d : Nat) : ∀ f sp, (tapearchivelaw14_LabelRoundTrip_e d).Γ f = some sp → SpecOK Try.prog f sp := tab_all (all_mem ⟨tapearchivelaw14_lives_ok d, label_Blocks_ok d, label_Valid_ok d, tapearchivelaw14_few_ok d, label_Parse_ok d, tapearchiveref14_Copied_ok d, trivial⟩)
theorem tapearchivelaw14_LabelRoundTrip_ok (d : Nat) : SpecOK Try.prog 5 ⟨[.v kLabel, .v (.slice kBlock)], [.v .bool], fun x => tapearchivelaw14_LabelRoundTrip d x.1 x.2⟩ :=
  fn_ok (e := tapearchivelaw14_LabelRoundTrip_e d) (c := bodyOf Try.f5) Try.func5 (by kernel_rfl) (by decide +kernel) mixed tau_ok (tapearchivelaw14_LabelRoundTrip_G d) rfl (by decide) (by decide) (by kernel_rfl) rfl (by decide) (fun C hC => loops_of (l := []) (by kernel_rfl) (all_mem trivial)) (fun x => by kernel_rfl)
def tapearchivelaw14_LabelOneForm_e (d : Nat) : Env [.v .bool] where
  τ := tyTab types
  n := 58
  Γ := tab [(8, ⟨[], [.v .bool], fun x => tapearchivelaw14_lives d⟩), (9, ⟨[.v kLabel], [.o 39 kBlock false, .v (.int .i64)], fun x => label_Blocks d x⟩), (11, ⟨[.v (.slice kBlock), .v (.slice kBlock)], [.v .bool], fun x => tapearchiveref14_Same d x.1 x.2⟩), (12, ⟨[.v kLabel], [.v .bool], fun x => label_Valid d x⟩), (16, ⟨[.v (.slice kBlock)], [.v .bool], fun x => tapearchivelaw14_few d x⟩), (17, ⟨[.v (.slice kBlock)], [.v kLabel, .v (.int .i64), .v (.int .i64)], fun x => label_Parse d x⟩)]
  res := [.tmp 2]
  loopN := tab []
  loopR := tab []
  join := tab []
  loopX := tab []
  unroll := tab []
theorem tapearchivelaw14_LabelOneForm_G (d : Nat) : ∀ f sp, (tapearchivelaw14_LabelOneForm_e d).Γ f = some sp → SpecOK Try.prog f sp := tab_all (all_mem ⟨tapearchivelaw14_lives_ok d, label_Blocks_ok d, tapearchiveref14_Same_ok d, label_Valid_ok d, tapearchivelaw14_few_ok d, label_Parse_ok d, trivial⟩)
theorem tapearchivelaw14_LabelOneForm_ok (d : Nat) : SpecOK Try.prog 6 ⟨[.v (.slice kBlock)], [.v .bool], fun x => tapearchivelaw14_LabelOneForm d x⟩ :=
  fn_ok (e := tapearchivelaw14_LabelOneForm_e d) (c := bodyOf Try.f6) Try.func6 (by kernel_rfl) (by decide +kernel) mixed tau_ok (tapearchivelaw14_LabelOneForm_G d) rfl (by decide) (by decide) (by kernel_rfl) rfl (by decide) (fun C hC => loops_of (l := []) (by kernel_rfl) (all_mem trivial)) (fun x => by kernel_rfl)
def tapearchivelaw14_LabelDivides_e (d : Nat) : Env [.v .bool] where
  τ := tyTab types
  n := 93
  Γ := tab [(8, ⟨[], [.v .bool], fun x => tapearchivelaw14_lives d⟩), (16, ⟨[.v (.slice kBlock)], [.v .bool], fun x => tapearchivelaw14_few d x⟩), (19, ⟨[.v (.slice kBlock)], [.v (.slice (.int .u8))], fun x => label_Bytes d x⟩), (21, ⟨[.v (.slice kBlock)], [.o 39 kBlock false], fun x => tapearchiveref14_Copied d x⟩), (22, ⟨[.v (.slice (.int .u8))], [.o 39 kBlock false], fun x => label_Divide d x⟩)]
  res := [.tmp 4]
  loopN := tab []
  loopR := tab [(0, ⟨⟨[(0, .p (.slice (.int .u8))), (1, .p (.slice kBlock)), (5, .slw 1000320 false), (6, .p (.int .i64))], [(1000320, .list 39 kBlock)]⟩, ⟨[(0, .p (.slice (.int .u8))), (1, .p (.slice kBlock)), (5, .slw 1000320 false)], [(1000320, .list 39 kBlock)]⟩, fun x => tapearchivelaw14_LabelDivides_l0 d d x.1 x.2.1 x.2.2.1 x.2.2.2⟩), (2, ⟨⟨[(7, .p (.slice (.int .u8))), (8, .p (.int .i64))], []⟩, ⟨[], []⟩, fun x => tapearchivelaw14_LabelDivides_l2 d d x.1 x.2⟩)]
  join := tab [(5, ⟨[(0, .p (.slice (.int .u8))), (1, .p (.slice kBlock))], []⟩), (16, ⟨[(0, .p (.slice (.int .u8))), (7, .p (.slice (.int .u8)))], []⟩)]
  loopX := tab []
  unroll := tab []
theorem tapearchivelaw14_LabelDivides_G (d : Nat) : ∀ f sp, (tapearchivelaw14_LabelDivides_e d).Γ f = some sp → SpecOK Try.prog f sp := tab_all (all_mem ⟨tapearchivelaw14_lives_ok d, tapearchivelaw14_few_ok d, label_Bytes_ok d, tapearchiveref14_Copied_ok d, label_Divide_ok d, trivial⟩)
theorem tapearchivelaw14_LabelDivides_l0_ok (d : Nat) (C : Cx) (hC : (tapearchivelaw14_LabelDivides_e d).n = C.n) : ∀ k, LoopR Try.prog C (tapearchivelaw14_LabelDivides_e d) (loopAt (bodyOf Try.f7) 0) 0 ⟨⟨[(0, .p (.slice (.int .u8))), (1, .p (.slice kBlock)), (5, .slw 1000320 false), (6, .p (.int .i64))], [(1000320, .list 39 kBlock)]⟩, ⟨[(0, .p (.slice (.int .u8))), (1, .p (.slice kBlock)), (5, .slw 1000320 false)], [(1000320, .list 39 kBlock)]⟩, fun x => tapearchivelaw14_LabelDivides_l0 d k x.1 x.2.1 x.2.2.1 x.2.2.2⟩ :=
  loopR_ok (outs := [.v .bool]) ⟨[(0, .p (.slice (.int .u8))), (1, .p (.slice kBlock)), (5, .slw 1000320 false), (6, .p (.int .i64))], [(1000320, .list 39 kBlock)]⟩ ⟨[(0, .p (.slice (.int .u8))), (1, .p (.slice kBlock)), (5, .slw 1000320 false)], [(1000320, .list 39 kBlock)]⟩ (fun k x => tapearchivelaw14_LabelDivides_l0 d k x.1 x.2.1 x.2.2.1 x.2.2.2) (fun _ => tapearchivelaw14_LabelDivides_e d) (fun _ => ⟨tau_ok, hC, tapearchivelaw14_LabelDivides_G d⟩) mixed (fun _ => loops_of (l := []) (by kernel_rfl) (all_mem trivial)) (fun _ => rfl) (fun _ => rfl) (fun _ => rfl) (fun k x => by kernel_rfl)
theorem tapearchivelaw14_LabelDivides_l2_ok (d : Nat) (C : Cx) (hC : (tapearchivelaw14_LabelDivides_e d).n = C.n) : ∀ k, LoopR Try.prog C (tapearchivelaw14_LabelDivides_e d) (loopAt (bodyOf Try.f7) 1) 2 ⟨⟨[(7, .p (.slice (.int .u8))), (8, .p (.int .i64))], []⟩, ⟨[], []⟩, fun x => tapearchivelaw14_LabelDivides_l2 d k x.1 x.2⟩ :=
  loopR_ok (outs := [.v .bool]) ⟨[(7, .p (.slice (.int .u8))), (8, .p (.int .i64))], []⟩ ⟨[], []⟩ (fun k x => tapearchivelaw14_LabelDivides_l2 d k x.1 x.2) (fun _ => tapearchivelaw14_LabelDivides_e d) (fun _ => ⟨tau_ok, hC, tapearchivelaw14_LabelDivides_G d⟩) mixed (fun _ => loops_of (l := []) (by kernel_rfl) (all_mem trivial)) (fun _ => rfl) (fun _ => rfl) (fun _ => rfl) (fun k x => by kernel_rfl)
theorem tapearchivelaw14_LabelDivides_ok (d : Nat) : SpecOK Try.prog 7 ⟨[.v (.slice (.int .u8)), .v (.slice kBlock)], [.v .bool], fun x => tapearchivelaw14_LabelDivides d x.1 x.2⟩ :=
  fn_ok (e := tapearchivelaw14_LabelDivides_e d) (c := bodyOf Try.f7) Try.func7 (by kernel_rfl) (by decide +kernel) mixed tau_ok (tapearchivelaw14_LabelDivides_G d) rfl (by decide) (by decide) (by kernel_rfl) rfl (by decide) (fun C hC => loops_of (l := [(0, loopAt (bodyOf Try.f7) 0), (2, loopAt (bodyOf Try.f7) 1)]) (by kernel_rfl) (all_mem ⟨⟨tab_none rfl, tab_none rfl, tab_one rfl (tapearchivelaw14_LabelDivides_l0_ok d C hC d), tab_none rfl⟩, ⟨tab_none rfl, tab_none rfl, tab_one rfl (tapearchivelaw14_LabelDivides_l2_ok d C hC d), tab_none rfl⟩, trivial⟩)) (fun x => by kernel_rfl)
end Go.Proofs.Ytkgjchmfiohciaa.Den.G14
