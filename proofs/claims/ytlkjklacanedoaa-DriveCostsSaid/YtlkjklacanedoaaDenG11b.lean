/- What the Go code does: tables and theorems, written by emit.py. -/
import Derived.Test.YtlkjklacanedoaaDenS25
import Derived.Test.YtlkjklacanedoaaDenG11a
import Derived.Test.YtlkjklacanedoaaProg
set_option linter.unusedVariables false
set_option maxRecDepth 100000
namespace Go.Proofs.Ytlkjklacanedoaa.Den.G11
open Go.Proofs.Ytlkjklacanedoaa.Den Go Go.Proofs
def types : List (Nat × Ty) := [(3, ⟨.int .i64, 8, (.int .i64)⟩), (4, ⟨.bool, 1, .bool⟩), (5, ⟨.int .u8, 1, (.int .u8)⟩), (9, ⟨.str, 16, .str⟩), (23, ⟨.struct [(0, 3), (1, 3), (2, 3), (3, 3), (4, 3)], 40, kDriveModel⟩), (25, ⟨.struct [(0, 3), (1, 3), (2, 3), (3, 3), (4, 3), (5, 3)], 48, kGeometry⟩), (26, ⟨.slice 61, 24, (.slice kBlock)⟩), (28, ⟨.struct [(0, 9), (1, 25), (7, 4), (8, 4), (9, 26), (10, 3), (11, 3), (12, 3)], 120, kCartridge⟩), (31, ⟨.slice 28, 24, (.slice kCartridge)⟩), (33, ⟨.struct [(0, 3), (1, 3), (2, 3), (3, 26)], 48, ktapearchivelaw11_Step⟩), (34, ⟨.slice 33, 24, (.slice ktapearchivelaw11_Step)⟩), (36, ⟨.struct [(0, 3), (1, 9), (2, 3), (3, 3), (4, 3), (5, 3)], 56, kDrive⟩), (37, ⟨.int .i64, 8, (.int .i64)⟩), (48, ⟨.struct [(0, 36), (6, 28), (19, 26), (20, 3), (21, 37)], 216, ktapearchivelaw11_Done⟩), (59, ⟨.slice 5, 24, (.slice (.int .u8))⟩), (61, ⟨.struct [(0, 4), (1, 4), (2, 59)], 32, kBlock⟩), (68, ⟨.struct [(0, 36), (6, 28), (19, 3), (20, 37)], 192, kdrive_done⟩), (82, ⟨.struct [(0, 3), (1, 3)], 16, kSpan⟩), (94, ⟨.struct [(0, 3), (1, 3), (2, 4)], 24, kPlace⟩), (104, ⟨.slice 3, 24, (.slice (.int .i64))⟩)]
theorem types_ok : ∀ p ∈ types, TyOK Try.prog (tyTab types) p.1 p.2 := by
  refine all_mem ?_
  exact ⟨⟨by kernel_rfl, ⟨by kernel_rfl, rfl⟩, by decide⟩, ⟨by kernel_rfl, ⟨by kernel_rfl, rfl⟩, by decide⟩, ⟨by kernel_rfl, ⟨by kernel_rfl, rfl⟩, by decide⟩, ⟨by kernel_rfl, ⟨by kernel_rfl, rfl⟩, by decide⟩, ⟨by kernel_rfl, ⟨by kernel_rfl, rfl, by kernel_rfl, by kernel_rfl, by kernel_rfl, by decide +kernel⟩, by decide⟩, ⟨by kernel_rfl, ⟨by kernel_rfl, rfl, by kernel_rfl, by kernel_rfl, by kernel_rfl, by decide +kernel⟩, by decide⟩, ⟨by kernel_rfl, ⟨by kernel_rfl, _, rfl, rfl⟩, by decide⟩, ⟨by kernel_rfl, ⟨by kernel_rfl, rfl, by kernel_rfl, by kernel_rfl, by kernel_rfl, by decide +kernel⟩, by decide⟩, ⟨by kernel_rfl, ⟨by kernel_rfl, _, rfl, rfl⟩, by decide⟩, ⟨by kernel_rfl, ⟨by kernel_rfl, rfl, by kernel_rfl, by kernel_rfl, by kernel_rfl, by decide +kernel⟩, by decide⟩, ⟨by kernel_rfl, ⟨by kernel_rfl, _, rfl, rfl⟩, by decide⟩, ⟨by kernel_rfl, ⟨by kernel_rfl, rfl, by kernel_rfl, by kernel_rfl, by kernel_rfl, by decide +kernel⟩, by decide⟩, ⟨by kernel_rfl, ⟨by kernel_rfl, rfl⟩, by decide⟩, ⟨by kernel_rfl, ⟨by kernel_rfl, rfl, by kernel_rfl, by kernel_rfl, by kernel_rfl, by decide +kernel⟩, by decide⟩, ⟨by kernel_rfl, ⟨by kernel_rfl, _, rfl, rfl⟩, by decide⟩, ⟨by kernel_rfl, ⟨by kernel_rfl, rfl, by kernel_rfl, by kernel_rfl, by kernel_rfl, by decide +kernel⟩, by decide⟩, ⟨by kernel_rfl, ⟨by kernel_rfl, rfl, by kernel_rfl, by kernel_rfl, by kernel_rfl, by decide +kernel⟩, by decide⟩, ⟨by kernel_rfl, ⟨by kernel_rfl, rfl, by kernel_rfl, by kernel_rfl, by kernel_rfl, by decide +kernel⟩, by decide⟩, ⟨by kernel_rfl, ⟨by kernel_rfl, rfl, by kernel_rfl, by kernel_rfl, by kernel_rfl, by decide +kernel⟩, by decide⟩, ⟨by kernel_rfl, ⟨by kernel_rfl, _, rfl, rfl⟩, by decide⟩, trivial⟩
theorem tau_ok : TauOK Try.prog (tyTab types) := tyTab_ok types_ok
theorem mixed : Try.prog.follows .mixedOrders = true := by kernel_rfl
def drive_Due_e (d : Nat) : Env [.v .bool] where
  τ := tyTab types
  n := 15
  Γ := tab []
  res := [.tmp 4]
  loopN := tab []
  loopR := tab []
  join := tab []
  loopX := tab []
  unroll := tab []
theorem drive_Due_G (d : Nat) : ∀ f sp, (drive_Due_e d).Γ f = some sp → SpecOK Try.prog f sp := tab_all (all_mem trivial)
theorem drive_Due_ok (d : Nat) : SpecOK Try.prog 19 ⟨[.v kDriveModel, .v kDrive], [.v .bool], fun x => drive_Due d x.1 x.2⟩ :=
  fn_ok (e := drive_Due_e d) (c := bodyOf Try.f19) Try.func19 (by kernel_rfl) (by decide +kernel) mixed tau_ok (drive_Due_G d) rfl (by decide) (by decide) (by kernel_rfl) rfl (by decide) (fun C hC => loops_of (l := []) (by kernel_rfl) (all_mem trivial)) (fun x => by kernel_rfl)
def drive_in_e (d : Nat) : Env [.v .bool] where
  τ := tyTab types
  n := 15
  Γ := tab []
  res := [.tmp 6]
  loopN := tab []
  loopR := tab []
  join := tab []
  loopX := tab []
  unroll := tab []
theorem drive_in_G (d : Nat) : ∀ f sp, (drive_in_e d).Γ f = some sp → SpecOK Try.prog f sp := tab_all (all_mem trivial)
theorem drive_in_ok (d : Nat) : SpecOK Try.prog 34 ⟨[.v (.int .i64), .v (.int .i64), .v (.int .i64)], [.v .bool], fun x => drive_in d x.1 x.2.1 x.2.2⟩ :=
  fn_ok (e := drive_in_e d) (c := bodyOf Try.f34) Try.func34 (by kernel_rfl) (by decide +kernel) mixed tau_ok (drive_in_G d) rfl (by decide) (by decide) (by kernel_rfl) rfl (by decide) (fun C hC => loops_of (l := []) (by kernel_rfl) (all_mem trivial)) (fun x => by kernel_rfl)
def drive_sound_e (d : Nat) : Env [.v .bool] where
  τ := tyTab types
  n := 26
  Γ := tab [(34, ⟨[.v (.int .i64), .v (.int .i64), .v (.int .i64)], [.v .bool], fun x => drive_in d x.1 x.2.1 x.2.2⟩)]
  res := [.tmp 2]
  loopN := tab []
  loopR := tab []
  join := tab []
  loopX := tab []
  unroll := tab []
theorem drive_sound_G (d : Nat) : ∀ f sp, (drive_sound_e d).Γ f = some sp → SpecOK Try.prog f sp := tab_all (all_mem ⟨drive_in_ok d, trivial⟩)
theorem drive_sound_ok (d : Nat) : SpecOK Try.prog 27 ⟨[.v kDriveModel], [.v .bool], fun x => drive_sound d x⟩ :=
  fn_ok (e := drive_sound_e d) (c := bodyOf Try.f27) Try.func27 (by kernel_rfl) (by decide +kernel) mixed tau_ok (drive_sound_G d) rfl (by decide) (by decide) (by kernel_rfl) rfl (by decide) (fun C hC => loops_of (l := []) (by kernel_rfl) (all_mem trivial)) (fun x => by kernel_rfl)
def drive_valid_e (d : Nat) : Env [.v .bool] where
  τ := tyTab types
  n := 43
  Γ := tab [(34, ⟨[.v (.int .i64), .v (.int .i64), .v (.int .i64)], [.v .bool], fun x => drive_in d x.1 x.2.1 x.2.2⟩)]
  res := [.tmp 2]
  loopN := tab []
  loopR := tab []
  join := tab [(3, ⟨[(1, .ad 1 0)], [(1, .agg 36 kDrive)]⟩)]
  loopX := tab []
  unroll := tab []
theorem drive_valid_G (d : Nat) : ∀ f sp, (drive_valid_e d).Γ f = some sp → SpecOK Try.prog f sp := tab_all (all_mem ⟨drive_in_ok d, trivial⟩)
theorem drive_valid_ok (d : Nat) : SpecOK Try.prog 28 ⟨[.v kDrive], [.v .bool], fun x => drive_valid d x⟩ :=
  fn_ok (e := drive_valid_e d) (c := bodyOf Try.f28) Try.func28 (by kernel_rfl) (by decide +kernel) mixed tau_ok (drive_valid_G d) rfl (by decide) (by decide) (by kernel_rfl) rfl (by decide) (fun C hC => loops_of (l := []) (by kernel_rfl) (all_mem trivial)) (fun x => by kernel_rfl)
def cartridge_barcode_e (d : Nat) : Env [.v .bool] where
  τ := tyTab types
  n := 35
  Γ := tab []
  res := [.tmp 2]
  loopN := tab []
  loopR := tab [(0, ⟨⟨[(0, .p .str), (6, .p (.slice (.int .u8))), (7, .p (.int .i64)), (8, .p (.int .i64))], []⟩, ⟨[(0, .p .str)], []⟩, fun x => cartridge_barcode_l0 d d x.1 x.2.1 x.2.2.1 x.2.2.2⟩)]
  join := tab []
  loopX := tab []
  unroll := tab []
theorem cartridge_barcode_G (d : Nat) : ∀ f sp, (cartridge_barcode_e d).Γ f = some sp → SpecOK Try.prog f sp := tab_all (all_mem trivial)
theorem cartridge_barcode_l0_ok (d : Nat) (C : Cx) (hC : (cartridge_barcode_e d).n = C.n) : ∀ k, LoopR Try.prog C (cartridge_barcode_e d) (loopAt (bodyOf Try.f53) 0) 0 ⟨⟨[(0, .p .str), (6, .p (.slice (.int .u8))), (7, .p (.int .i64)), (8, .p (.int .i64))], []⟩, ⟨[(0, .p .str)], []⟩, fun x => cartridge_barcode_l0 d k x.1 x.2.1 x.2.2.1 x.2.2.2⟩ :=
  loopR_ok (outs := [.v .bool]) ⟨[(0, .p .str), (6, .p (.slice (.int .u8))), (7, .p (.int .i64)), (8, .p (.int .i64))], []⟩ ⟨[(0, .p .str)], []⟩ (fun k x => cartridge_barcode_l0 d k x.1 x.2.1 x.2.2.1 x.2.2.2) (fun _ => cartridge_barcode_e d) (fun _ => ⟨tau_ok, hC, cartridge_barcode_G d⟩) mixed (fun _ => loops_of (l := []) (by kernel_rfl) (all_mem trivial)) (fun _ => rfl) (fun _ => rfl) (fun _ => rfl) (fun k x => by kernel_rfl)
theorem cartridge_barcode_ok (d : Nat) : SpecOK Try.prog 53 ⟨[.v .str], [.v .bool], fun x => cartridge_barcode d x⟩ :=
  fn_ok (e := cartridge_barcode_e d) (c := bodyOf Try.f53) Try.func53 (by kernel_rfl) (by decide +kernel) mixed tau_ok (cartridge_barcode_G d) rfl (by decide) (by decide) (by kernel_rfl) rfl (by decide) (fun C hC => loops_of (l := [(0, loopAt (bodyOf Try.f53) 0)]) (by kernel_rfl) (all_mem ⟨⟨tab_none rfl, tab_none rfl, tab_one rfl (cartridge_barcode_l0_ok d C hC d), tab_none rfl⟩, trivial⟩)) (fun x => by kernel_rfl)
def serpentine_timed_e (d : Nat) : Env [.v .bool] where
  τ := tyTab types
  n := 18
  Γ := tab []
  res := [.tmp 2]
  loopN := tab []
  loopR := tab [(0, ⟨⟨[(5, .p (.slice (.int .i64))), (6, .p (.int .i64)), (7, .p (.int .i64))], []⟩, ⟨[], []⟩, fun x => serpentine_timed_l0 d d x.1 x.2.1 x.2.2⟩)]
  join := tab []
  loopX := tab []
  unroll := tab []
theorem serpentine_timed_G (d : Nat) : ∀ f sp, (serpentine_timed_e d).Γ f = some sp → SpecOK Try.prog f sp := tab_all (all_mem trivial)
theorem serpentine_timed_l0_ok (d : Nat) (C : Cx) (hC : (serpentine_timed_e d).n = C.n) : ∀ k, LoopR Try.prog C (serpentine_timed_e d) (loopAt (bodyOf Try.f80) 0) 0 ⟨⟨[(5, .p (.slice (.int .i64))), (6, .p (.int .i64)), (7, .p (.int .i64))], []⟩, ⟨[], []⟩, fun x => serpentine_timed_l0 d k x.1 x.2.1 x.2.2⟩ :=
  loopR_ok (outs := [.v .bool]) ⟨[(5, .p (.slice (.int .i64))), (6, .p (.int .i64)), (7, .p (.int .i64))], []⟩ ⟨[], []⟩ (fun k x => serpentine_timed_l0 d k x.1 x.2.1 x.2.2) (fun _ => serpentine_timed_e d) (fun _ => ⟨tau_ok, hC, serpentine_timed_G d⟩) mixed (fun _ => loops_of (l := []) (by kernel_rfl) (all_mem trivial)) (fun _ => rfl) (fun _ => rfl) (fun _ => rfl) (fun k x => by kernel_rfl)
theorem serpentine_timed_ok (d : Nat) : SpecOK Try.prog 80 ⟨[.v (.slice (.int .i64))], [.v .bool], fun x => serpentine_timed d x⟩ :=
  fn_ok (e := serpentine_timed_e d) (c := bodyOf Try.f80) Try.func80 (by kernel_rfl) (by decide +kernel) mixed tau_ok (serpentine_timed_G d) rfl (by decide) (by decide) (by kernel_rfl) rfl (by decide) (fun C hC => loops_of (l := [(0, loopAt (bodyOf Try.f80) 0)]) (by kernel_rfl) (all_mem ⟨⟨tab_none rfl, tab_none rfl, tab_one rfl (serpentine_timed_l0_ok d C hC d), tab_none rfl⟩, trivial⟩)) (fun x => by kernel_rfl)
def serpentine_Valid_e (d : Nat) : Env [.v .bool] where
  τ := tyTab types
  n := 34
  Γ := tab [(80, ⟨[.v (.slice (.int .i64))], [.v .bool], fun x => serpentine_timed d x⟩)]
  res := [.tmp 2]
  loopN := tab []
  loopR := tab []
  join := tab [(3, ⟨[(1, .ad 1 0)], [(1, .agg 25 kGeometry)]⟩)]
  loopX := tab []
  unroll := tab []
theorem serpentine_Valid_G (d : Nat) : ∀ f sp, (serpentine_Valid_e d).Γ f = some sp → SpecOK Try.prog f sp := tab_all (all_mem ⟨serpentine_timed_ok d, trivial⟩)
theorem serpentine_Valid_ok (d : Nat) : SpecOK Try.prog 54 ⟨[.v kGeometry], [.v .bool], fun x => serpentine_Valid d x⟩ :=
  fn_ok (e := serpentine_Valid_e d) (c := bodyOf Try.f54) Try.func54 (by kernel_rfl) (by decide +kernel) mixed tau_ok (serpentine_Valid_G d) rfl (by decide) (by decide) (by kernel_rfl) rfl (by decide) (fun C hC => loops_of (l := []) (by kernel_rfl) (all_mem trivial)) (fun x => by kernel_rfl)
def serpentine_Capacity_e (d : Nat) : Env [.v (.int .i64)] where
  τ := tyTab types
  n := 11
  Γ := tab [(54, ⟨[.v kGeometry], [.v .bool], fun x => serpentine_Valid d x⟩)]
  res := [.tmp 2]
  loopN := tab []
  loopR := tab []
  join := tab []
  loopX := tab []
  unroll := tab []
theorem serpentine_Capacity_G (d : Nat) : ∀ f sp, (serpentine_Capacity_e d).Γ f = some sp → SpecOK Try.prog f sp := tab_all (all_mem ⟨serpentine_Valid_ok d, trivial⟩)
theorem serpentine_Capacity_ok (d : Nat) : SpecOK Try.prog 55 ⟨[.v kGeometry], [.v (.int .i64)], fun x => serpentine_Capacity d x⟩ :=
  fn_ok (e := serpentine_Capacity_e d) (c := bodyOf Try.f55) Try.func55 (by kernel_rfl) (by decide +kernel) mixed tau_ok (serpentine_Capacity_G d) rfl (by decide) (by decide) (by kernel_rfl) rfl (by decide) (fun C hC => loops_of (l := []) (by kernel_rfl) (all_mem trivial)) (fun x => by kernel_rfl)
def cartridge_counter_e (d : Nat) : Env [.v .bool] where
  τ := tyTab types
  n := 9
  Γ := tab []
  res := [.tmp 2]
  loopN := tab []
  loopR := tab []
  join := tab []
  loopX := tab []
  unroll := tab []
theorem cartridge_counter_G (d : Nat) : ∀ f sp, (cartridge_counter_e d).Γ f = some sp → SpecOK Try.prog f sp := tab_all (all_mem trivial)
theorem cartridge_counter_ok (d : Nat) : SpecOK Try.prog 56 ⟨[.v (.int .i64)], [.v .bool], fun x => cartridge_counter d x⟩ :=
  fn_ok (e := cartridge_counter_e d) (c := bodyOf Try.f56) Try.func56 (by kernel_rfl) (by decide +kernel) mixed tau_ok (cartridge_counter_G d) rfl (by decide) (by decide) (by kernel_rfl) rfl (by decide) (fun C hC => loops_of (l := []) (by kernel_rfl) (all_mem trivial)) (fun x => by kernel_rfl)
def cartridge_block_e (d : Nat) : Env [.v .bool] where
  τ := tyTab types
  n := 19
  Γ := tab []
  res := [.tmp 2]
  loopN := tab []
  loopR := tab []
  join := tab []
  loopX := tab []
  unroll := tab []
theorem cartridge_block_G (d : Nat) : ∀ f sp, (cartridge_block_e d).Γ f = some sp → SpecOK Try.prog f sp := tab_all (all_mem trivial)
theorem cartridge_block_ok (d : Nat) : SpecOK Try.prog 52 ⟨[.v kBlock], [.v .bool], fun x => cartridge_block d x⟩ :=
  fn_ok (e := cartridge_block_e d) (c := bodyOf Try.f52) Try.func52 (by kernel_rfl) (by decide +kernel) mixed tau_ok (cartridge_block_G d) rfl (by decide) (by decide) (by kernel_rfl) rfl (by decide) (fun C hC => loops_of (l := []) (by kernel_rfl) (all_mem trivial)) (fun x => by kernel_rfl)
def cartridge_Valid_1_e (d : Nat) : Env [.v .bool] where
  τ := tyTab types
  n := 6
  Γ := tab [(52, ⟨[.v kBlock], [.v .bool], fun x => cartridge_block d x⟩)]
  res := [.tmp 2]
  loopN := tab []
  loopR := tab []
  join := tab []
  loopX := tab []
  unroll := tab []
theorem cartridge_Valid_1_G (d : Nat) : ∀ f sp, (cartridge_Valid_1_e d).Γ f = some sp → SpecOK Try.prog f sp := tab_all (all_mem ⟨cartridge_block_ok d, trivial⟩)
theorem cartridge_Valid_1_ok (d : Nat) : SpecOK Try.prog 51 ⟨[.v kBlock], [.v .bool], fun x => cartridge_Valid_1 d x⟩ :=
  fn_ok (e := cartridge_Valid_1_e d) (c := bodyOf Try.f51) Try.func51 (by kernel_rfl) (by decide +kernel) mixed tau_ok (cartridge_Valid_1_G d) rfl (by decide) (by decide) (by kernel_rfl) rfl (by decide) (fun C hC => loops_of (l := []) (by kernel_rfl) (all_mem trivial)) (fun x => by kernel_rfl)
def slices_IndexFunc_api_Block_cartridge_Valid_1_e (d : Nat) : Env [.v (.int .i64)] where
  τ := tyTab types
  n := 19
  Γ := tab [(51, ⟨[.v kBlock], [.v .bool], fun x => cartridge_Valid_1 d x⟩)]
  res := [.tmp 4]
  loopN := tab []
  loopR := tab [(0, ⟨⟨[(0, .p (.slice kBlock)), (1, .fn 51 []), (7, .p (.int .i64)), (8, .p (.int .i64))], []⟩, ⟨[], []⟩, fun x => slices_IndexFunc_api_Block_cartridge_Valid_1_l0 d d x.1 x.2.1 x.2.2⟩)]
  join := tab []
  loopX := tab []
  unroll := tab []
theorem slices_IndexFunc_api_Block_cartridge_Valid_1_G (d : Nat) : ∀ f sp, (slices_IndexFunc_api_Block_cartridge_Valid_1_e d).Γ f = some sp → SpecOK Try.prog f sp := tab_all (all_mem ⟨cartridge_Valid_1_ok d, trivial⟩)
theorem slices_IndexFunc_api_Block_cartridge_Valid_1_l0_ok (d : Nat) (C : Cx) (hC : (slices_IndexFunc_api_Block_cartridge_Valid_1_e d).n = C.n) : ∀ k, LoopR Try.prog C (slices_IndexFunc_api_Block_cartridge_Valid_1_e d) (loopAt (bodyOf Try.f67) 0) 0 ⟨⟨[(0, .p (.slice kBlock)), (1, .fn 51 []), (7, .p (.int .i64)), (8, .p (.int .i64))], []⟩, ⟨[], []⟩, fun x => slices_IndexFunc_api_Block_cartridge_Valid_1_l0 d k x.1 x.2.1 x.2.2⟩ :=
  loopR_ok (outs := [.v (.int .i64)]) ⟨[(0, .p (.slice kBlock)), (1, .fn 51 []), (7, .p (.int .i64)), (8, .p (.int .i64))], []⟩ ⟨[], []⟩ (fun k x => slices_IndexFunc_api_Block_cartridge_Valid_1_l0 d k x.1 x.2.1 x.2.2) (fun _ => slices_IndexFunc_api_Block_cartridge_Valid_1_e d) (fun _ => ⟨tau_ok, hC, slices_IndexFunc_api_Block_cartridge_Valid_1_G d⟩) mixed (fun _ => loops_of (l := []) (by kernel_rfl) (all_mem trivial)) (fun _ => rfl) (fun _ => rfl) (fun _ => rfl) (fun k x => by kernel_rfl)
theorem slices_IndexFunc_api_Block_cartridge_Valid_1_ok (d : Nat) : SpecOK Try.prog 67 ⟨[.v (.slice kBlock), .f 51 []], [.v (.int .i64)], fun x => slices_IndexFunc_api_Block_cartridge_Valid_1 d x⟩ :=
  fn_ok (e := slices_IndexFunc_api_Block_cartridge_Valid_1_e d) (c := bodyOf Try.f67) Try.func67 (by kernel_rfl) (by decide +kernel) mixed tau_ok (slices_IndexFunc_api_Block_cartridge_Valid_1_G d) rfl (by decide) (by decide) (by kernel_rfl) rfl (by decide) (fun C hC => loops_of (l := [(0, loopAt (bodyOf Try.f67) 0)]) (by kernel_rfl) (all_mem ⟨⟨tab_none rfl, tab_none rfl, tab_one rfl (slices_IndexFunc_api_Block_cartridge_Valid_1_l0_ok d C hC d), tab_none rfl⟩, trivial⟩)) (fun x => by kernel_rfl)
def slices_ContainsFunc_api_Block_cartridge_Valid_1_e (d : Nat) : Env [.v .bool] where
  τ := tyTab types
  n := 9
  Γ := tab [(67, ⟨[.v (.slice kBlock), .f 51 []], [.v (.int .i64)], fun x => slices_IndexFunc_api_Block_cartridge_Valid_1 d x⟩)]
  res := [.tmp 4]
  loopN := tab []
  loopR := tab []
  join := tab []
  loopX := tab []
  unroll := tab []
theorem slices_ContainsFunc_api_Block_cartridge_Valid_1_G (d : Nat) : ∀ f sp, (slices_ContainsFunc_api_Block_cartridge_Valid_1_e d).Γ f = some sp → SpecOK Try.prog f sp := tab_all (all_mem ⟨slices_IndexFunc_api_Block_cartridge_Valid_1_ok d, trivial⟩)
theorem slices_ContainsFunc_api_Block_cartridge_Valid_1_ok (d : Nat) : SpecOK Try.prog 57 ⟨[.v (.slice kBlock), .f 51 []], [.v .bool], fun x => slices_ContainsFunc_api_Block_cartridge_Valid_1 d x⟩ :=
  fn_ok (e := slices_ContainsFunc_api_Block_cartridge_Valid_1_e d) (c := bodyOf Try.f57) Try.func57 (by kernel_rfl) (by decide +kernel) mixed tau_ok (slices_ContainsFunc_api_Block_cartridge_Valid_1_G d) rfl (by decide) (by decide) (by kernel_rfl) rfl (by decide) (fun C hC => loops_of (l := []) (by kernel_rfl) (all_mem trivial)) (fun x => by kernel_rfl)
def cartridge_Valid_e (d : Nat) : Env [.v .bool] where
  τ := tyTab types
  n := 43
  Γ := tab [(53, ⟨[.v .str], [.v .bool], fun x => cartridge_barcode d x⟩), (54, ⟨[.v kGeometry], [.v .bool], fun x => serpentine_Valid d x⟩), (55, ⟨[.v kGeometry], [.v (.int .i64)], fun x => serpentine_Capacity d x⟩), (56, ⟨[.v (.int .i64)], [.v .bool], fun x => cartridge_counter d x⟩), (57, ⟨[.v (.slice kBlock), .f 51 []], [.v .bool], fun x => slices_ContainsFunc_api_Block_cartridge_Valid_1 d x⟩)]
  res := [.tmp 2]
  loopN := tab []
  loopR := tab []
  join := tab []
  loopX := tab []
  unroll := tab []
theorem cartridge_Valid_G (d : Nat) : ∀ f sp, (cartridge_Valid_e d).Γ f = some sp → SpecOK Try.prog f sp := tab_all (all_mem ⟨cartridge_barcode_ok d, serpentine_Valid_ok d, serpentine_Capacity_ok d, cartridge_counter_ok d, slices_ContainsFunc_api_Block_cartridge_Valid_1_ok d, trivial⟩)
theorem cartridge_Valid_ok (d : Nat) : SpecOK Try.prog 29 ⟨[.v kCartridge], [.v .bool], fun x => cartridge_Valid d x⟩ :=
  fn_ok (e := cartridge_Valid_e d) (c := bodyOf Try.f29) Try.func29 (by kernel_rfl) (by decide +kernel) mixed tau_ok (cartridge_Valid_G d) rfl (by decide) (by decide) (by kernel_rfl) rfl (by decide) (fun C hC => loops_of (l := []) (by kernel_rfl) (all_mem trivial)) (fun x => by kernel_rfl)
def drive_own_e (d : Nat) : Env [.v kCartridge] where
  τ := tyTab types
  n := 31
  Γ := tab []
  res := [.cell 2 28]
  loopN := tab [(0, ⟨⟨[(1, .ad 1 0), (2, .ad 2 0), (3, .slw 9 true), (11, .p (.slice kBlock)), (12, .p (.int .i64)), (13, .p (.int .i64))], [(1, .agg 28 kCartridge), (2, .agg 28 kCartridge), (9, .list 61 kBlock)]⟩, ⟨[(1, .ad 1 0), (2, .ad 2 0), (3, .slw 9 true)], [(1, .agg 28 kCartridge), (2, .agg 28 kCartridge), (9, .list 61 kBlock)]⟩, fun x => drive_own_l0 d d x.1 x.2.1 x.2.2.1 x.2.2.2.1 x.2.2.2.2.1 x.2.2.2.2.2⟩)]
  loopR := tab []
  join := tab []
  loopX := tab []
  unroll := tab []
theorem drive_own_G (d : Nat) : ∀ f sp, (drive_own_e d).Γ f = some sp → SpecOK Try.prog f sp := tab_all (all_mem trivial)
theorem drive_own_l0_ok (d : Nat) (C : Cx) (hC : (drive_own_e d).n = C.n) : ∀ k, LoopN Try.prog C (loopAt (bodyOf Try.f30) 0) 0 ⟨⟨[(1, .ad 1 0), (2, .ad 2 0), (3, .slw 9 true), (11, .p (.slice kBlock)), (12, .p (.int .i64)), (13, .p (.int .i64))], [(1, .agg 28 kCartridge), (2, .agg 28 kCartridge), (9, .list 61 kBlock)]⟩, ⟨[(1, .ad 1 0), (2, .ad 2 0), (3, .slw 9 true)], [(1, .agg 28 kCartridge), (2, .agg 28 kCartridge), (9, .list 61 kBlock)]⟩, fun x => drive_own_l0 d k x.1 x.2.1 x.2.2.1 x.2.2.2.1 x.2.2.2.2.1 x.2.2.2.2.2⟩ :=
  loopN_ok (outs := [.v kCartridge]) ⟨[(1, .ad 1 0), (2, .ad 2 0), (3, .slw 9 true), (11, .p (.slice kBlock)), (12, .p (.int .i64)), (13, .p (.int .i64))], [(1, .agg 28 kCartridge), (2, .agg 28 kCartridge), (9, .list 61 kBlock)]⟩ ⟨[(1, .ad 1 0), (2, .ad 2 0), (3, .slw 9 true)], [(1, .agg 28 kCartridge), (2, .agg 28 kCartridge), (9, .list 61 kBlock)]⟩ (fun k x => drive_own_l0 d k x.1 x.2.1 x.2.2.1 x.2.2.2.1 x.2.2.2.2.1 x.2.2.2.2.2) (fun _ => drive_own_e d) (fun _ => ⟨tau_ok, hC, drive_own_G d⟩) mixed (fun _ => loops_of (l := []) (by kernel_rfl) (all_mem trivial)) (fun _ => rfl) (fun k x => by kernel_rfl)
theorem drive_own_ok (d : Nat) : SpecOK Try.prog 30 ⟨[.v kCartridge], [.v kCartridge], fun x => drive_own d x⟩ :=
  fn_ok (e := drive_own_e d) (c := bodyOf Try.f30) Try.func30 (by kernel_rfl) (by decide +kernel) mixed tau_ok (drive_own_G d) rfl (by decide) (by decide) (by kernel_rfl) rfl (by decide) (fun C hC => loops_of (l := [(0, loopAt (bodyOf Try.f30) 0)]) (by kernel_rfl) (all_mem ⟨⟨tab_none rfl, tab_one rfl (drive_own_l0_ok d C hC d), tab_none rfl, tab_none rfl⟩, trivial⟩)) (fun x => by kernel_rfl)
def drive_more_e (d : Nat) : Env [.v (.int .i64)] where
  τ := tyTab types
  n := 9
  Γ := tab []
  res := [.tmp 4]
  loopN := tab []
  loopR := tab []
  join := tab []
  loopX := tab []
  unroll := tab []
theorem drive_more_G (d : Nat) : ∀ f sp, (drive_more_e d).Γ f = some sp → SpecOK Try.prog f sp := tab_all (all_mem trivial)
theorem drive_more_ok (d : Nat) : SpecOK Try.prog 31 ⟨[.v (.int .i64), .v (.int .i64)], [.v (.int .i64)], fun x => drive_more d x.1 x.2⟩ :=
  fn_ok (e := drive_more_e d) (c := bodyOf Try.f31) Try.func31 (by kernel_rfl) (by decide +kernel) mixed tau_ok (drive_more_G d) rfl (by decide) (by decide) (by kernel_rfl) rfl (by decide) (fun C hC => loops_of (l := []) (by kernel_rfl) (all_mem trivial)) (fun x => by kernel_rfl)
def drive_Load_e (d : Nat) : Env [.v kDrive, .v kCartridge, .v (.int .i64), .v (.int .i64)] where
  τ := tyTab types
  n := 61
  Γ := tab [(19, ⟨[.v kDriveModel, .v kDrive], [.v .bool], fun x => drive_Due d x.1 x.2⟩), (27, ⟨[.v kDriveModel], [.v .bool], fun x => drive_sound d x⟩), (28, ⟨[.v kDrive], [.v .bool], fun x => drive_valid d x⟩), (29, ⟨[.v kCartridge], [.v .bool], fun x => cartridge_Valid d x⟩), (30, ⟨[.v kCartridge], [.v kCartridge], fun x => drive_own d x⟩), (31, ⟨[.v (.int .i64), .v (.int .i64)], [.v (.int .i64)], fun x => drive_more d x.1 x.2⟩)]
  res := [.cell 6 36, .cell 7 28, .tmp 8, .tmp 9]
  loopN := tab []
  loopR := tab []
  join := tab [(10, ⟨[(3, .ad 3 0), (4, .ad 4 0), (5, .ad 5 0), (6, .ad 6 0), (7, .ad 7 0), (10, .p (.int .i64))], [(3, .agg 23 kDriveModel), (4, .agg 36 kDrive), (5, .agg 28 kCartridge), (6, .agg 36 kDrive), (7, .agg 28 kCartridge)]⟩)]
  loopX := tab []
  unroll := tab []
theorem drive_Load_G (d : Nat) : ∀ f sp, (drive_Load_e d).Γ f = some sp → SpecOK Try.prog f sp := tab_all (all_mem ⟨drive_Due_ok d, drive_sound_ok d, drive_valid_ok d, cartridge_Valid_ok d, drive_own_ok d, drive_more_ok d, trivial⟩)
theorem drive_Load_ok (d : Nat) : SpecOK Try.prog 10 ⟨[.v kDriveModel, .v kDrive, .v kCartridge], [.v kDrive, .v kCartridge, .v (.int .i64), .v (.int .i64)], fun x => drive_Load d x.1 x.2.1 x.2.2⟩ :=
  fn_ok (e := drive_Load_e d) (c := bodyOf Try.f10) Try.func10 (by kernel_rfl) (by decide +kernel) mixed tau_ok (drive_Load_G d) rfl (by decide) (by decide) (by kernel_rfl) rfl (by decide) (fun C hC => loops_of (l := []) (by kernel_rfl) (all_mem trivial)) (fun x => by kernel_rfl)
def drive_first_e (d : Nat) : Env [.v (.int .i64)] where
  τ := tyTab types
  n := 66
  Γ := tab [(27, ⟨[.v kDriveModel], [.v .bool], fun x => drive_sound d x⟩), (28, ⟨[.v kDrive], [.v .bool], fun x => drive_valid d x⟩), (29, ⟨[.v kCartridge], [.v .bool], fun x => cartridge_Valid d x⟩)]
  res := [.tmp 6]
  loopN := tab []
  loopR := tab [(0, ⟨⟨[(3, .ad 3 0), (4, .ad 4 0), (5, .ad 5 0), (8, .p (.int .i64))], [(3, .agg 23 kDriveModel), (4, .agg 36 kDrive), (5, .agg 28 kCartridge)]⟩, ⟨[], []⟩, fun x => drive_first_l0 d d x.1 x.2.1 x.2.2.1 x.2.2.2⟩)]
  join := tab []
  loopX := tab []
  unroll := tab []
theorem drive_first_G (d : Nat) : ∀ f sp, (drive_first_e d).Γ f = some sp → SpecOK Try.prog f sp := tab_all (all_mem ⟨drive_sound_ok d, drive_valid_ok d, cartridge_Valid_ok d, trivial⟩)
theorem drive_first_l0_ok (d : Nat) (C : Cx) (hC : (drive_first_e d).n = C.n) : ∀ k, LoopR Try.prog C (drive_first_e d) (loopAt (bodyOf Try.f58) 0) 0 ⟨⟨[(3, .ad 3 0), (4, .ad 4 0), (5, .ad 5 0), (8, .p (.int .i64))], [(3, .agg 23 kDriveModel), (4, .agg 36 kDrive), (5, .agg 28 kCartridge)]⟩, ⟨[], []⟩, fun x => drive_first_l0 d k x.1 x.2.1 x.2.2.1 x.2.2.2⟩ :=
  loopR_ok (outs := [.v (.int .i64)]) ⟨[(3, .ad 3 0), (4, .ad 4 0), (5, .ad 5 0), (8, .p (.int .i64))], [(3, .agg 23 kDriveModel), (4, .agg 36 kDrive), (5, .agg 28 kCartridge)]⟩ ⟨[], []⟩ (fun k x => drive_first_l0 d k x.1 x.2.1 x.2.2.1 x.2.2.2) (fun _ => drive_first_e d) (fun _ => ⟨tau_ok, hC, drive_first_G d⟩) mixed (fun _ => loops_of (l := []) (by kernel_rfl) (all_mem trivial)) (fun _ => rfl) (fun _ => rfl) (fun _ => rfl) (fun k x => by kernel_rfl)
theorem drive_first_ok (d : Nat) : SpecOK Try.prog 58 ⟨[.v kDriveModel, .v kDrive, .v kCartridge], [.v (.int .i64)], fun x => drive_first d x.1 x.2.1 x.2.2⟩ :=
  fn_ok (e := drive_first_e d) (c := bodyOf Try.f58) Try.func58 (by kernel_rfl) (by decide +kernel) mixed tau_ok (drive_first_G d) rfl (by decide) (by decide) (by kernel_rfl) rfl (by decide) (fun C hC => loops_of (l := [(0, loopAt (bodyOf Try.f58) 0)]) (by kernel_rfl) (all_mem ⟨⟨tab_none rfl, tab_none rfl, tab_one rfl (drive_first_l0_ok d C hC d), tab_none rfl⟩, trivial⟩)) (fun x => by kernel_rfl)
def serpentine_within_e (d : Nat) : Env [.v .bool] where
  τ := tyTab types
  n := 28
  Γ := tab [(54, ⟨[.v kGeometry], [.v .bool], fun x => serpentine_Valid d x⟩)]
  res := [.tmp 4]
  loopN := tab []
  loopR := tab [(0, ⟨⟨[(2, .ad 2 0), (10, .p (.slice (.int .i64))), (11, .p (.int .i64)), (12, .p (.int .i64))], [(2, .agg 25 kGeometry)]⟩, ⟨[], []⟩, fun x => serpentine_within_l0 d d x.1 x.2.1 x.2.2.1 x.2.2.2⟩)]
  join := tab []
  loopX := tab []
  unroll := tab []
theorem serpentine_within_G (d : Nat) : ∀ f sp, (serpentine_within_e d).Γ f = some sp → SpecOK Try.prog f sp := tab_all (all_mem ⟨serpentine_Valid_ok d, trivial⟩)
theorem serpentine_within_l0_ok (d : Nat) (C : Cx) (hC : (serpentine_within_e d).n = C.n) : ∀ k, LoopR Try.prog C (serpentine_within_e d) (loopAt (bodyOf Try.f59) 0) 0 ⟨⟨[(2, .ad 2 0), (10, .p (.slice (.int .i64))), (11, .p (.int .i64)), (12, .p (.int .i64))], [(2, .agg 25 kGeometry)]⟩, ⟨[], []⟩, fun x => serpentine_within_l0 d k x.1 x.2.1 x.2.2.1 x.2.2.2⟩ :=
  loopR_ok (outs := [.v .bool]) ⟨[(2, .ad 2 0), (10, .p (.slice (.int .i64))), (11, .p (.int .i64)), (12, .p (.int .i64))], [(2, .agg 25 kGeometry)]⟩ ⟨[], []⟩ (fun k x => serpentine_within_l0 d k x.1 x.2.1 x.2.2.1 x.2.2.2) (fun _ => serpentine_within_e d) (fun _ => ⟨tau_ok, hC, serpentine_within_G d⟩) mixed (fun _ => loops_of (l := []) (by kernel_rfl) (all_mem trivial)) (fun _ => rfl) (fun _ => rfl) (fun _ => rfl) (fun k x => by kernel_rfl)
theorem serpentine_within_ok (d : Nat) : SpecOK Try.prog 59 ⟨[.v kGeometry, .v (.slice (.int .i64))], [.v .bool], fun x => serpentine_within d x.1 x.2⟩ :=
  fn_ok (e := serpentine_within_e d) (c := bodyOf Try.f59) Try.func59 (by kernel_rfl) (by decide +kernel) mixed tau_ok (serpentine_within_G d) rfl (by decide) (by decide) (by kernel_rfl) rfl (by decide) (fun C hC => loops_of (l := [(0, loopAt (bodyOf Try.f59) 0)]) (by kernel_rfl) (all_mem ⟨⟨tab_none rfl, tab_none rfl, tab_one rfl (serpentine_within_l0_ok d C hC d), tab_none rfl⟩, trivial⟩)) (fun x => by kernel_rfl)
def serpentine_on_e (d : Nat) : Env [.v kPlace] where
  τ := tyTab types
  n := 51
  Γ := tab [(61, ⟨[.v kGeometry, .v (.int .i64)], [.v kPlace], fun x => serpentine_on d x.1 x.2⟩)]
  res := [.cell 4 94]
  loopN := tab []
  loopR := tab []
  join := tab []
  loopX := tab []
  unroll := tab []
theorem serpentine_on_G (d : Nat) (hR : SpecOK Try.prog 61 ⟨[.v kGeometry, .v (.int .i64)], [.v kPlace], fun x => serpentine_on d x.1 x.2⟩) : ∀ f sp, (serpentine_on_e d).Γ f = some sp → SpecOK Try.prog f sp := tab_all (all_mem ⟨hR, trivial⟩)
theorem serpentine_on_ok : ∀ (d : Nat), SpecOK Try.prog 61 ⟨[.v kGeometry, .v (.int .i64)], [.v kPlace], fun x => serpentine_on d x.1 x.2⟩
  | 0 => spec_none (c := bodyOf Try.f61) Try.func61 (by kernel_rfl) (by decide +kernel) rfl (fun x => rfl)
  | d + 1 => by
    have hR := serpentine_on_ok d
    exact fn_ok (e := serpentine_on_e d) (c := bodyOf Try.f61) Try.func61 (by kernel_rfl) (by decide +kernel) mixed tau_ok (serpentine_on_G d hR) rfl (by decide) (by decide) (by kernel_rfl) rfl (by decide) (fun C hC => loops_of (l := []) (by kernel_rfl) (all_mem trivial)) (fun x => by kernel_rfl)
def serpentine_distance_e (d : Nat) : Env [.v (.int .i64)] where
  τ := tyTab types
  n := 12
  Γ := tab []
  res := [.tmp 4]
  loopN := tab []
  loopR := tab []
  join := tab []
  loopX := tab []
  unroll := tab []
theorem serpentine_distance_G (d : Nat) : ∀ f sp, (serpentine_distance_e d).Γ f = some sp → SpecOK Try.prog f sp := tab_all (all_mem trivial)
theorem serpentine_distance_ok (d : Nat) : SpecOK Try.prog 81 ⟨[.v (.int .i64), .v (.int .i64)], [.v (.int .i64)], fun x => serpentine_distance d x.1 x.2⟩ :=
  fn_ok (e := serpentine_distance_e d) (c := bodyOf Try.f81) Try.func81 (by kernel_rfl) (by decide +kernel) mixed tau_ok (serpentine_distance_G d) rfl (by decide) (by decide) (by kernel_rfl) rfl (by decide) (fun C hC => loops_of (l := []) (by kernel_rfl) (all_mem trivial)) (fun x => by kernel_rfl)
def serpentine_motion_e (d : Nat) : Env [.v (.int .i64)] where
  τ := tyTab types
  n := 54
  Γ := tab [(81, ⟨[.v (.int .i64), .v (.int .i64)], [.v (.int .i64)], fun x => serpentine_distance d x.1 x.2⟩)]
  res := [.tmp 6]
  loopN := tab []
  loopR := tab []
  join := tab [(7, ⟨[(3, .ad 3 0), (7, .p (.int .i64)), (8, .p .bool)], [(3, .agg 25 kGeometry)]⟩)]
  loopX := tab []
  unroll := tab []
theorem serpentine_motion_G (d : Nat) : ∀ f sp, (serpentine_motion_e d).Γ f = some sp → SpecOK Try.prog f sp := tab_all (all_mem ⟨serpentine_distance_ok d, trivial⟩)
theorem serpentine_motion_ok (d : Nat) : SpecOK Try.prog 60 ⟨[.v kGeometry, .v kPlace, .v kPlace], [.v (.int .i64)], fun x => serpentine_motion d x.1 x.2.1 x.2.2⟩ :=
  fn_ok (e := serpentine_motion_e d) (c := bodyOf Try.f60) Try.func60 (by kernel_rfl) (by decide +kernel) mixed tau_ok (serpentine_motion_G d) rfl (by decide) (by decide) (by kernel_rfl) rfl (by decide) (fun C hC => loops_of (l := []) (by kernel_rfl) (all_mem trivial)) (fun x => by kernel_rfl)
def serpentine_Locate_e (d : Nat) : Env [.v (.int .i64)] where
  τ := tyTab types
  n := 26
  Γ := tab [(59, ⟨[.v kGeometry, .v (.slice (.int .i64))], [.v .bool], fun x => serpentine_within d x.1 x.2⟩), (60, ⟨[.v kGeometry, .v kPlace, .v kPlace], [.v (.int .i64)], fun x => serpentine_motion d x.1 x.2.1 x.2.2⟩), (61, ⟨[.v kGeometry, .v (.int .i64)], [.v kPlace], fun x => serpentine_on d x.1 x.2⟩)]
  res := [.tmp 6]
  loopN := tab []
  loopR := tab []
  join := tab [(3, ⟨[(1, .p (.int .i64)), (2, .p (.int .i64)), (3, .ad 3 0)], [(3, .agg 25 kGeometry)]⟩)]
  loopX := tab []
  unroll := tab []
theorem serpentine_Locate_G (d : Nat) : ∀ f sp, (serpentine_Locate_e d).Γ f = some sp → SpecOK Try.prog f sp := tab_all (all_mem ⟨serpentine_within_ok d, serpentine_motion_ok d, serpentine_on_ok d, trivial⟩)
theorem serpentine_Locate_ok (d : Nat) : SpecOK Try.prog 35 ⟨[.v kGeometry, .v (.int .i64), .v (.int .i64)], [.v (.int .i64)], fun x => serpentine_Locate d x.1 x.2.1 x.2.2⟩ :=
  fn_ok (e := serpentine_Locate_e d) (c := bodyOf Try.f35) Try.func35 (by kernel_rfl) (by decide +kernel) mixed tau_ok (serpentine_Locate_G d) rfl (by decide) (by decide) (by kernel_rfl) rfl (by decide) (fun C hC => loops_of (l := []) (by kernel_rfl) (all_mem trivial)) (fun x => by kernel_rfl)
def serpentine_Passes_e (d : Nat) : Env [.v (.int .i64)] where
  τ := tyTab types
  n := 32
  Γ := tab [(59, ⟨[.v kGeometry, .v (.slice (.int .i64))], [.v .bool], fun x => serpentine_within d x.1 x.2⟩), (61, ⟨[.v kGeometry, .v (.int .i64)], [.v kPlace], fun x => serpentine_on d x.1 x.2⟩), (81, ⟨[.v (.int .i64), .v (.int .i64)], [.v (.int .i64)], fun x => serpentine_distance d x.1 x.2⟩)]
  res := [.tmp 6]
  loopN := tab []
  loopR := tab []
  join := tab []
  loopX := tab []
  unroll := tab []
theorem serpentine_Passes_G (d : Nat) : ∀ f sp, (serpentine_Passes_e d).Γ f = some sp → SpecOK Try.prog f sp := tab_all (all_mem ⟨serpentine_within_ok d, serpentine_on_ok d, serpentine_distance_ok d, trivial⟩)
theorem serpentine_Passes_ok (d : Nat) : SpecOK Try.prog 62 ⟨[.v kGeometry, .v (.int .i64), .v (.int .i64)], [.v (.int .i64)], fun x => serpentine_Passes d x.1 x.2.1 x.2.2⟩ :=
  fn_ok (e := serpentine_Passes_e d) (c := bodyOf Try.f62) Try.func62 (by kernel_rfl) (by decide +kernel) mixed tau_ok (serpentine_Passes_G d) rfl (by decide) (by decide) (by kernel_rfl) rfl (by decide) (fun C hC => loops_of (l := []) (by kernel_rfl) (all_mem trivial)) (fun x => by kernel_rfl)
def drive_moved_e (d : Nat) : Env [.v kDrive, .v kCartridge] where
  τ := tyTab types
  n := 34
  Γ := tab [(31, ⟨[.v (.int .i64), .v (.int .i64)], [.v (.int .i64)], fun x => drive_more d x.1 x.2⟩), (62, ⟨[.v kGeometry, .v (.int .i64), .v (.int .i64)], [.v (.int .i64)], fun x => serpentine_Passes d x.1 x.2.1 x.2.2⟩)]
  res := [.cell 6 36, .cell 7 28]
  loopN := tab []
  loopR := tab []
  join := tab []
  loopX := tab []
  unroll := tab []
theorem drive_moved_G (d : Nat) : ∀ f sp, (drive_moved_e d).Γ f = some sp → SpecOK Try.prog f sp := tab_all (all_mem ⟨drive_more_ok d, serpentine_Passes_ok d, trivial⟩)
theorem drive_moved_ok (d : Nat) : SpecOK Try.prog 36 ⟨[.v kDrive, .v kCartridge, .v (.int .i64)], [.v kDrive, .v kCartridge], fun x => drive_moved d x.1 x.2.1 x.2.2⟩ :=
  fn_ok (e := drive_moved_e d) (c := bodyOf Try.f36) Try.func36 (by kernel_rfl) (by decide +kernel) mixed tau_ok (drive_moved_G d) rfl (by decide) (by decide) (by kernel_rfl) rfl (by decide) (fun C hC => loops_of (l := []) (by kernel_rfl) (all_mem trivial)) (fun x => by kernel_rfl)
def drive_Seek_1_e (d : Nat) : Env [.b 0 68 kdrive_done] where
  τ := tyTab types
  n := 49
  Γ := tab [(34, ⟨[.v (.int .i64), .v (.int .i64), .v (.int .i64)], [.v .bool], fun x => drive_in d x.1 x.2.1 x.2.2⟩), (35, ⟨[.v kGeometry, .v (.int .i64), .v (.int .i64)], [.v (.int .i64)], fun x => serpentine_Locate d x.1 x.2.1 x.2.2⟩), (36, ⟨[.v kDrive, .v kCartridge, .v (.int .i64)], [.v kDrive, .v kCartridge], fun x => drive_moved d x.1 x.2.1 x.2.2⟩)]
  res := []
  loopN := tab []
  loopR := tab []
  join := tab []
  loopX := tab []
  unroll := tab []
theorem drive_Seek_1_G (d : Nat) : ∀ f sp, (drive_Seek_1_e d).Γ f = some sp → SpecOK Try.prog f sp := tab_all (all_mem ⟨drive_in_ok d, serpentine_Locate_ok d, drive_moved_ok d, trivial⟩)
theorem drive_Seek_1_ok (d : Nat) : SpecOK Try.prog 33 ⟨[.b 0 68 kdrive_done, .pl (.int .i64)], [.b 0 68 kdrive_done], fun x => drive_Seek_1 d x.1 x.2⟩ :=
  fn_ok (e := drive_Seek_1_e d) (c := bodyOf Try.f33) Try.func33 (by kernel_rfl) (by decide +kernel) mixed tau_ok (drive_Seek_1_G d) rfl (by decide) (by decide) (by kernel_rfl) rfl (by decide) (fun C hC => loops_of (l := []) (by kernel_rfl) (all_mem trivial)) (fun x => by kernel_rfl)
def drive_after_drive_Seek_1_e (d : Nat) : Env [.v kdrive_done] where
  τ := tyTab types
  n := 37
  Γ := tab [(30, ⟨[.v kCartridge], [.v kCartridge], fun x => drive_own d x⟩), (33, ⟨[.b 0 68 kdrive_done, .pl (.int .i64)], [.b 0 68 kdrive_done], fun x => drive_Seek_1 d x.1 x.2⟩), (58, ⟨[.v kDriveModel, .v kDrive, .v kCartridge], [.v (.int .i64)], fun x => drive_first d x.1 x.2.1 x.2.2⟩)]
  res := [.cell 8 68]
  loopN := tab []
  loopR := tab []
  join := tab []
  loopX := tab []
  unroll := tab []
theorem drive_after_drive_Seek_1_G (d : Nat) : ∀ f sp, (drive_after_drive_Seek_1_e d).Γ f = some sp → SpecOK Try.prog f sp := tab_all (all_mem ⟨drive_own_ok d, drive_Seek_1_ok d, drive_first_ok d, trivial⟩)
theorem drive_after_drive_Seek_1_ok (d : Nat) : SpecOK Try.prog 32 ⟨[.v kDriveModel, .v kDrive, .v kCartridge, .f 33 [.ro (.int .i64)]], [.v kdrive_done], fun x => drive_after_drive_Seek_1 d x.1 x.2.1 x.2.2.1 x.2.2.2⟩ :=
  fn_ok (e := drive_after_drive_Seek_1_e d) (c := bodyOf Try.f32) Try.func32 (by kernel_rfl) (by decide +kernel) mixed tau_ok (drive_after_drive_Seek_1_G d) rfl (by decide) (by decide) (by kernel_rfl) rfl (by decide) (fun C hC => loops_of (l := []) (by kernel_rfl) (all_mem trivial)) (fun x => by kernel_rfl)
def drive_Seek_e (d : Nat) : Env [.v kDrive, .v kCartridge, .v (.int .i64), .v (.int .i64)] where
  τ := tyTab types
  n := 26
  Γ := tab [(32, ⟨[.v kDriveModel, .v kDrive, .v kCartridge, .f 33 [.ro (.int .i64)]], [.v kdrive_done], fun x => drive_after_drive_Seek_1 d x.1 x.2.1 x.2.2.1 x.2.2.2⟩)]
  res := [.cell 8 36, .cell 9 28, .tmp 10, .tmp 11]
  loopN := tab []
  loopR := tab []
  join := tab []
  loopX := tab []
  unroll := tab []
theorem drive_Seek_G (d : Nat) : ∀ f sp, (drive_Seek_e d).Γ f = some sp → SpecOK Try.prog f sp := tab_all (all_mem ⟨drive_after_drive_Seek_1_ok d, trivial⟩)
theorem drive_Seek_ok (d : Nat) : SpecOK Try.prog 12 ⟨[.v kDriveModel, .v kDrive, .v kCartridge, .v (.int .i64)], [.v kDrive, .v kCartridge, .v (.int .i64), .v (.int .i64)], fun x => drive_Seek d x.1 x.2.1 x.2.2.1 x.2.2.2⟩ :=
  fn_ok (e := drive_Seek_e d) (c := bodyOf Try.f12) Try.func12 (by kernel_rfl) (by decide +kernel) mixed tau_ok (drive_Seek_G d) rfl (by decide) (by decide) (by kernel_rfl) rfl (by decide) (fun C hC => loops_of (l := []) (by kernel_rfl) (all_mem trivial)) (fun x => by kernel_rfl)
def cartridge_Read_1_e (d : Nat) : Env [.v .bool] where
  τ := tyTab types
  n := 5
  Γ := tab []
  res := [.tmp 2]
  loopN := tab []
  loopR := tab []
  join := tab []
  loopX := tab []
  unroll := tab []
theorem cartridge_Read_1_G (d : Nat) : ∀ f sp, (cartridge_Read_1_e d).Γ f = some sp → SpecOK Try.prog f sp := tab_all (all_mem trivial)
theorem cartridge_Read_1_ok (d : Nat) : SpecOK Try.prog 68 ⟨[.v kBlock], [.v .bool], fun x => cartridge_Read_1 d x⟩ :=
  fn_ok (e := cartridge_Read_1_e d) (c := bodyOf Try.f68) Try.func68 (by kernel_rfl) (by decide +kernel) mixed tau_ok (cartridge_Read_1_G d) rfl (by decide) (by decide) (by kernel_rfl) rfl (by decide) (fun C hC => loops_of (l := []) (by kernel_rfl) (all_mem trivial)) (fun x => by kernel_rfl)
def slices_IndexFunc_api_Block_cartridge_Read_1_e (d : Nat) : Env [.v (.int .i64)] where
  τ := tyTab types
  n := 19
  Γ := tab [(68, ⟨[.v kBlock], [.v .bool], fun x => cartridge_Read_1 d x⟩)]
  res := [.tmp 4]
  loopN := tab []
  loopR := tab [(0, ⟨⟨[(0, .p (.slice kBlock)), (1, .fn 68 []), (7, .p (.int .i64)), (8, .p (.int .i64))], []⟩, ⟨[], []⟩, fun x => slices_IndexFunc_api_Block_cartridge_Read_1_l0 d d x.1 x.2.1 x.2.2⟩)]
  join := tab []
  loopX := tab []
  unroll := tab []
theorem slices_IndexFunc_api_Block_cartridge_Read_1_G (d : Nat) : ∀ f sp, (slices_IndexFunc_api_Block_cartridge_Read_1_e d).Γ f = some sp → SpecOK Try.prog f sp := tab_all (all_mem ⟨cartridge_Read_1_ok d, trivial⟩)
theorem slices_IndexFunc_api_Block_cartridge_Read_1_l0_ok (d : Nat) (C : Cx) (hC : (slices_IndexFunc_api_Block_cartridge_Read_1_e d).n = C.n) : ∀ k, LoopR Try.prog C (slices_IndexFunc_api_Block_cartridge_Read_1_e d) (loopAt (bodyOf Try.f67) 0) 0 ⟨⟨[(0, .p (.slice kBlock)), (1, .fn 68 []), (7, .p (.int .i64)), (8, .p (.int .i64))], []⟩, ⟨[], []⟩, fun x => slices_IndexFunc_api_Block_cartridge_Read_1_l0 d k x.1 x.2.1 x.2.2⟩ :=
  loopR_ok (outs := [.v (.int .i64)]) ⟨[(0, .p (.slice kBlock)), (1, .fn 68 []), (7, .p (.int .i64)), (8, .p (.int .i64))], []⟩ ⟨[], []⟩ (fun k x => slices_IndexFunc_api_Block_cartridge_Read_1_l0 d k x.1 x.2.1 x.2.2) (fun _ => slices_IndexFunc_api_Block_cartridge_Read_1_e d) (fun _ => ⟨tau_ok, hC, slices_IndexFunc_api_Block_cartridge_Read_1_G d⟩) mixed (fun _ => loops_of (l := []) (by kernel_rfl) (all_mem trivial)) (fun _ => rfl) (fun _ => rfl) (fun _ => rfl) (fun k x => by kernel_rfl)
theorem slices_IndexFunc_api_Block_cartridge_Read_1_ok (d : Nat) : SpecOK Try.prog 67 ⟨[.v (.slice kBlock), .f 68 []], [.v (.int .i64)], fun x => slices_IndexFunc_api_Block_cartridge_Read_1 d x⟩ :=
  fn_ok (e := slices_IndexFunc_api_Block_cartridge_Read_1_e d) (c := bodyOf Try.f67) Try.func67 (by kernel_rfl) (by decide +kernel) mixed tau_ok (slices_IndexFunc_api_Block_cartridge_Read_1_G d) rfl (by decide) (by decide) (by kernel_rfl) rfl (by decide) (fun C hC => loops_of (l := [(0, loopAt (bodyOf Try.f67) 0)]) (by kernel_rfl) (all_mem ⟨⟨tab_none rfl, tab_none rfl, tab_one rfl (slices_IndexFunc_api_Block_cartridge_Read_1_l0_ok d C hC d), tab_none rfl⟩, trivial⟩)) (fun x => by kernel_rfl)
def slices_Clone_byte_e (d : Nat) : Env [.v (.slice (.int .u8))] where
  τ := tyTab types
  n := 8
  Γ := tab []
  res := [.tmp 2]
  loopN := tab []
  loopR := tab []
  join := tab []
  loopX := tab []
  unroll := tab []
theorem slices_Clone_byte_ok (d : Nat) : SpecOK Try.prog 83 ⟨[.v (.slice (.int .u8))], [.v (.slice (.int .u8))], fun x => slices_Clone_byte d x⟩ :=
  clone_ok (F := slices_Clone_byte d) (e := slices_Clone_byte_e d) (fn := Try.f83) (t := 59) (e0 := 5) (by_ := 24) (t' := 59) (i1 := 1) (o1 := opAt (seqL (seqL (seqR (bodyOf Try.f83)))) 0) (o2 := opAt (seqL (seqL (seqR (bodyOf Try.f83)))) 1) (r0 := seqL (bodyOf Try.f83)) (ca := condT (seqR (seqL (seqR (bodyOf Try.f83))))) (b := seqR (seqR (bodyOf Try.f83))) (s0 := fun xs => ⟨upd (init [.v (.slice (.int .u8))] xs).t 2 .nilsl, fun _ => none⟩)
    Try.func83 (by kernel_rfl) (by decide +kernel) mixed tau_ok (tab_all (all_mem trivial)) rfl (by decide) (by decide) (by kernel_rfl) (by kernel_rfl) (by decide) (by kernel_rfl) (by kernel_rfl) (by kernel_rfl) (by kernel_rfl) (by kernel_rfl) (by kernel_rfl)
    (fun C => ⟨loops_of (l := []) (by kernel_rfl) (all_mem trivial), loops_of (l := []) (by kernel_rfl) (all_mem trivial), loops_of (l := []) (by kernel_rfl) (all_mem trivial)⟩) (fun xs => by kernel_rfl) (fun xs => rfl) (fun xs => by kernel_rfl) (fun xs => by kernel_rfl) (by kernel_rfl)
def cartridge_copied_e (d : Nat) : Env [.o 61 kBlock true] where
  τ := tyTab types
  n := 34
  Γ := tab [(83, ⟨[.v (.slice (.int .u8))], [.v (.slice (.int .u8))], fun x => slices_Clone_byte d x⟩)]
  res := [.tmp 2]
  loopN := tab [(0, ⟨⟨[(3, .slw 8 true), (9, .p (.slice kBlock)), (10, .p (.int .i64)), (11, .p (.int .i64))], [(8, .list 61 kBlock)]⟩, ⟨[(3, .slw 8 true)], [(8, .list 61 kBlock)]⟩, fun x => cartridge_copied_l0 d d x.1 x.2.1 x.2.2.1 x.2.2.2⟩)]
  loopR := tab []
  join := tab []
  loopX := tab []
  unroll := tab []
theorem cartridge_copied_G (d : Nat) : ∀ f sp, (cartridge_copied_e d).Γ f = some sp → SpecOK Try.prog f sp := tab_all (all_mem ⟨slices_Clone_byte_ok d, trivial⟩)
theorem cartridge_copied_l0_ok (d : Nat) (C : Cx) (hC : (cartridge_copied_e d).n = C.n) : ∀ k, LoopN Try.prog C (loopAt (bodyOf Try.f65) 0) 0 ⟨⟨[(3, .slw 8 true), (9, .p (.slice kBlock)), (10, .p (.int .i64)), (11, .p (.int .i64))], [(8, .list 61 kBlock)]⟩, ⟨[(3, .slw 8 true)], [(8, .list 61 kBlock)]⟩, fun x => cartridge_copied_l0 d k x.1 x.2.1 x.2.2.1 x.2.2.2⟩ :=
  loopN_ok (outs := [.o 61 kBlock true]) ⟨[(3, .slw 8 true), (9, .p (.slice kBlock)), (10, .p (.int .i64)), (11, .p (.int .i64))], [(8, .list 61 kBlock)]⟩ ⟨[(3, .slw 8 true)], [(8, .list 61 kBlock)]⟩ (fun k x => cartridge_copied_l0 d k x.1 x.2.1 x.2.2.1 x.2.2.2) (fun _ => cartridge_copied_e d) (fun _ => ⟨tau_ok, hC, cartridge_copied_G d⟩) mixed (fun _ => loops_of (l := []) (by kernel_rfl) (all_mem trivial)) (fun _ => rfl) (fun k x => by kernel_rfl)
theorem cartridge_copied_ok (d : Nat) : SpecOK Try.prog 65 ⟨[.v (.slice kBlock)], [.o 61 kBlock true], fun x => cartridge_copied d x⟩ :=
  fn_ok (e := cartridge_copied_e d) (c := bodyOf Try.f65) Try.func65 (by kernel_rfl) (by decide +kernel) mixed tau_ok (cartridge_copied_G d) rfl (by decide) (by decide) (by kernel_rfl) rfl (by decide) (fun C hC => loops_of (l := [(0, loopAt (bodyOf Try.f65) 0)]) (by kernel_rfl) (all_mem ⟨⟨tab_none rfl, tab_one rfl (cartridge_copied_l0_ok d C hC d), tab_none rfl, tab_none rfl⟩, trivial⟩)) (fun x => by kernel_rfl)
def cartridge_Read_e (d : Nat) : Env [.v (.slice kBlock), .v (.int .i64)] where
  τ := tyTab types
  n := 65
  Γ := tab [(29, ⟨[.v kCartridge], [.v .bool], fun x => cartridge_Valid d x⟩), (65, ⟨[.v (.slice kBlock)], [.o 61 kBlock true], fun x => cartridge_copied d x⟩), (67, ⟨[.v (.slice kBlock), .f 68 []], [.v (.int .i64)], fun x => slices_IndexFunc_api_Block_cartridge_Read_1 d x⟩)]
  res := [.tmp 4, .tmp 5]
  loopN := tab []
  loopR := tab []
  join := tab [(9, ⟨[(2, .ad 2 0), (3, .ad 3 0)], [(2, .agg 28 kCartridge), (3, .agg 82 kSpan)]⟩)]
  loopX := tab []
  unroll := tab []
theorem cartridge_Read_G (d : Nat) : ∀ f sp, (cartridge_Read_e d).Γ f = some sp → SpecOK Try.prog f sp := tab_all (all_mem ⟨cartridge_Valid_ok d, cartridge_copied_ok d, slices_IndexFunc_api_Block_cartridge_Read_1_ok d, trivial⟩)
theorem cartridge_Read_ok (d : Nat) : SpecOK Try.prog 41 ⟨[.v kCartridge, .v kSpan], [.v (.slice kBlock), .v (.int .i64)], fun x => cartridge_Read d x.1 x.2⟩ :=
  fn_ok (e := cartridge_Read_e d) (c := bodyOf Try.f41) Try.func41 (by kernel_rfl) (by decide +kernel) mixed tau_ok (cartridge_Read_G d) rfl (by decide) (by decide) (by kernel_rfl) rfl (by decide) (fun C hC => loops_of (l := []) (by kernel_rfl) (all_mem trivial)) (fun x => by kernel_rfl)
def serpentine_Read_e (d : Nat) : Env [.v (.int .i64)] where
  τ := tyTab types
  n := 58
  Γ := tab [(59, ⟨[.v kGeometry, .v (.slice (.int .i64))], [.v .bool], fun x => serpentine_within d x.1 x.2⟩)]
  res := [.tmp 4]
  loopN := tab []
  loopR := tab []
  join := tab [(3, ⟨[(2, .ad 2 0), (3, .ad 3 0)], [(2, .agg 25 kGeometry), (3, .agg 82 kSpan)]⟩)]
  loopX := tab []
  unroll := tab []
theorem serpentine_Read_G (d : Nat) : ∀ f sp, (serpentine_Read_e d).Γ f = some sp → SpecOK Try.prog f sp := tab_all (all_mem ⟨serpentine_within_ok d, trivial⟩)
theorem serpentine_Read_ok (d : Nat) : SpecOK Try.prog 66 ⟨[.v kGeometry, .v kSpan], [.v (.int .i64)], fun x => serpentine_Read d x.1 x.2⟩ :=
  fn_ok (e := serpentine_Read_e d) (c := bodyOf Try.f66) Try.func66 (by kernel_rfl) (by decide +kernel) mixed tau_ok (serpentine_Read_G d) rfl (by decide) (by decide) (by kernel_rfl) rfl (by decide) (fun C hC => loops_of (l := []) (by kernel_rfl) (all_mem trivial)) (fun x => by kernel_rfl)
def drive_done_passed_e (d : Nat) : Env [.b 0 68 kdrive_done] where
  τ := tyTab types
  n := 45
  Γ := tab [(36, ⟨[.v kDrive, .v kCartridge, .v (.int .i64)], [.v kDrive, .v kCartridge], fun x => drive_moved d x.1 x.2.1 x.2.2⟩), (66, ⟨[.v kGeometry, .v kSpan], [.v (.int .i64)], fun x => serpentine_Read d x.1 x.2⟩)]
  res := []
  loopN := tab []
  loopR := tab []
  join := tab []
  loopX := tab []
  unroll := tab []
theorem drive_done_passed_G (d : Nat) : ∀ f sp, (drive_done_passed_e d).Γ f = some sp → SpecOK Try.prog f sp := tab_all (all_mem ⟨drive_moved_ok d, serpentine_Read_ok d, trivial⟩)
theorem drive_done_passed_ok (d : Nat) : SpecOK Try.prog 39 ⟨[.b 0 68 kdrive_done, .v (.int .i64)], [.b 0 68 kdrive_done], fun x => drive_done_passed d x.1 x.2⟩ :=
  fn_ok (e := drive_done_passed_e d) (c := bodyOf Try.f39) Try.func39 (by kernel_rfl) (by decide +kernel) mixed tau_ok (drive_done_passed_G d) rfl (by decide) (by decide) (by kernel_rfl) rfl (by decide) (fun C hC => loops_of (l := []) (by kernel_rfl) (all_mem trivial)) (fun x => by kernel_rfl)
def drive_Read_1_e (d : Nat) : Env [.b 0 68 kdrive_done, .b 1 26 (.slice kBlock)] where
  τ := tyTab types
  n := 47
  Γ := tab [(39, ⟨[.b 0 68 kdrive_done, .v (.int .i64)], [.b 0 68 kdrive_done], fun x => drive_done_passed d x.1 x.2⟩), (41, ⟨[.v kCartridge, .v kSpan], [.v (.slice kBlock), .v (.int .i64)], fun x => cartridge_Read d x.1 x.2⟩)]
  res := []
  loopN := tab []
  loopR := tab []
  join := tab [(2, ⟨[(0, .ad 3000000 0), (1, .fe (.int .i64)), (2, .ad 3000001 0), (5000000, .rw 3000000), (5000001, .rw 3000001)], [(3000000, .agg 68 kdrive_done), (3000001, .cells 26 [.p (.slice kBlock)])]⟩)]
  loopX := tab []
  unroll := tab []
theorem drive_Read_1_G (d : Nat) : ∀ f sp, (drive_Read_1_e d).Γ f = some sp → SpecOK Try.prog f sp := tab_all (all_mem ⟨drive_done_passed_ok d, cartridge_Read_ok d, trivial⟩)
theorem drive_Read_1_ok (d : Nat) : SpecOK Try.prog 40 ⟨[.b 0 68 kdrive_done, .pl (.int .i64), .b 1 26 (.slice kBlock)], [.b 0 68 kdrive_done, .b 1 26 (.slice kBlock)], fun x => drive_Read_1 d x.1 x.2.1 x.2.2⟩ :=
  fn_ok (e := drive_Read_1_e d) (c := bodyOf Try.f40) Try.func40 (by kernel_rfl) (by decide +kernel) mixed tau_ok (drive_Read_1_G d) rfl (by decide) (by decide) (by kernel_rfl) rfl (by decide) (fun C hC => loops_of (l := []) (by kernel_rfl) (all_mem trivial)) (fun x => by kernel_rfl)
def drive_after_drive_Read_1_e (d : Nat) : Env [.v kdrive_done, .b 0 26 (.slice kBlock)] where
  τ := tyTab types
  n := 37
  Γ := tab [(30, ⟨[.v kCartridge], [.v kCartridge], fun x => drive_own d x⟩), (40, ⟨[.b 0 68 kdrive_done, .pl (.int .i64), .b 1 26 (.slice kBlock)], [.b 0 68 kdrive_done, .b 1 26 (.slice kBlock)], fun x => drive_Read_1 d x.1 x.2.1 x.2.2⟩), (58, ⟨[.v kDriveModel, .v kDrive, .v kCartridge], [.v (.int .i64)], fun x => drive_first d x.1 x.2.1 x.2.2⟩)]
  res := [.cell 8 68]
  loopN := tab []
  loopR := tab []
  join := tab []
  loopX := tab []
  unroll := tab []
theorem drive_after_drive_Read_1_G (d : Nat) : ∀ f sp, (drive_after_drive_Read_1_e d).Γ f = some sp → SpecOK Try.prog f sp := tab_all (all_mem ⟨drive_own_ok d, drive_Read_1_ok d, drive_first_ok d, trivial⟩)
theorem drive_after_drive_Read_1_ok (d : Nat) : SpecOK Try.prog 32 ⟨[.v kDriveModel, .v kDrive, .v kCartridge, .f 40 [.ro (.int .i64), .io 0 26 (.slice kBlock)]], [.v kdrive_done, .b 0 26 (.slice kBlock)], fun x => drive_after_drive_Read_1 d x.1 x.2.1 x.2.2.1 x.2.2.2.1 x.2.2.2.2⟩ :=
  fn_ok (e := drive_after_drive_Read_1_e d) (c := bodyOf Try.f32) Try.func32 (by kernel_rfl) (by decide +kernel) mixed tau_ok (drive_after_drive_Read_1_G d) rfl (by decide) (by decide) (by kernel_rfl) rfl (by decide) (fun C hC => loops_of (l := []) (by kernel_rfl) (all_mem trivial)) (fun x => by kernel_rfl)
def drive_Read_e (d : Nat) : Env [.v kDrive, .v kCartridge, .v (.slice kBlock), .v (.int .i64), .v (.int .i64)] where
  τ := tyTab types
  n := 29
  Γ := tab [(32, ⟨[.v kDriveModel, .v kDrive, .v kCartridge, .f 40 [.ro (.int .i64), .io 0 26 (.slice kBlock)]], [.v kdrive_done, .b 0 26 (.slice kBlock)], fun x => drive_after_drive_Read_1 d x.1 x.2.1 x.2.2.1 x.2.2.2.1 x.2.2.2.2⟩)]
  res := [.cell 8 36, .cell 9 28, .tmp 10, .tmp 11, .tmp 12]
  loopN := tab []
  loopR := tab []
  join := tab []
  loopX := tab []
  unroll := tab []
theorem drive_Read_G (d : Nat) : ∀ f sp, (drive_Read_e d).Γ f = some sp → SpecOK Try.prog f sp := tab_all (all_mem ⟨drive_after_drive_Read_1_ok d, trivial⟩)
theorem drive_Read_ok (d : Nat) : SpecOK Try.prog 15 ⟨[.v kDriveModel, .v kDrive, .v kCartridge, .v (.int .i64)], [.v kDrive, .v kCartridge, .v (.slice kBlock), .v (.int .i64), .v (.int .i64)], fun x => drive_Read d x.1 x.2.1 x.2.2.1 x.2.2.2⟩ :=
  fn_ok (e := drive_Read_e d) (c := bodyOf Try.f15) Try.func15 (by kernel_rfl) (by decide +kernel) mixed tau_ok (drive_Read_G d) rfl (by decide) (by decide) (by kernel_rfl) rfl (by decide) (fun C hC => loops_of (l := []) (by kernel_rfl) (all_mem trivial)) (fun x => by kernel_rfl)
def drive_Worn_e (d : Nat) : Env [.v .bool] where
  τ := tyTab types
  n := 15
  Γ := tab []
  res := [.tmp 4]
  loopN := tab []
  loopR := tab []
  join := tab []
  loopX := tab []
  unroll := tab []
theorem drive_Worn_G (d : Nat) : ∀ f sp, (drive_Worn_e d).Γ f = some sp → SpecOK Try.prog f sp := tab_all (all_mem trivial)
theorem drive_Worn_ok (d : Nat) : SpecOK Try.prog 21 ⟨[.v kDriveModel, .v kCartridge], [.v .bool], fun x => drive_Worn d x.1 x.2⟩ :=
  fn_ok (e := drive_Worn_e d) (c := bodyOf Try.f21) Try.func21 (by kernel_rfl) (by decide +kernel) mixed tau_ok (drive_Worn_G d) rfl (by decide) (by decide) (by kernel_rfl) rfl (by decide) (fun C hC => loops_of (l := []) (by kernel_rfl) (all_mem trivial)) (fun x => by kernel_rfl)
def drive_Unload_1_e (d : Nat) : Env [.b 0 68 kdrive_done] where
  τ := tyTab types
  n := 46
  Γ := tab [(35, ⟨[.v kGeometry, .v (.int .i64), .v (.int .i64)], [.v (.int .i64)], fun x => serpentine_Locate d x.1 x.2.1 x.2.2⟩), (36, ⟨[.v kDrive, .v kCartridge, .v (.int .i64)], [.v kDrive, .v kCartridge], fun x => drive_moved d x.1 x.2.1 x.2.2⟩)]
  res := []
  loopN := tab []
  loopR := tab []
  join := tab []
  loopX := tab []
  unroll := tab []
theorem drive_Unload_1_G (d : Nat) : ∀ f sp, (drive_Unload_1_e d).Γ f = some sp → SpecOK Try.prog f sp := tab_all (all_mem ⟨serpentine_Locate_ok d, drive_moved_ok d, trivial⟩)
theorem drive_Unload_1_ok (d : Nat) : SpecOK Try.prog 50 ⟨[.b 0 68 kdrive_done, .pl kDriveModel], [.b 0 68 kdrive_done], fun x => drive_Unload_1 d x.1 x.2⟩ :=
  fn_ok (e := drive_Unload_1_e d) (c := bodyOf Try.f50) Try.func50 (by kernel_rfl) (by decide +kernel) mixed tau_ok (drive_Unload_1_G d) rfl (by decide) (by decide) (by kernel_rfl) rfl (by decide) (fun C hC => loops_of (l := []) (by kernel_rfl) (all_mem trivial)) (fun x => by kernel_rfl)
def drive_after_drive_Unload_1_e (d : Nat) : Env [.v kdrive_done] where
  τ := tyTab types
  n := 37
  Γ := tab [(30, ⟨[.v kCartridge], [.v kCartridge], fun x => drive_own d x⟩), (50, ⟨[.b 0 68 kdrive_done, .pl kDriveModel], [.b 0 68 kdrive_done], fun x => drive_Unload_1 d x.1 x.2⟩), (58, ⟨[.v kDriveModel, .v kDrive, .v kCartridge], [.v (.int .i64)], fun x => drive_first d x.1 x.2.1 x.2.2⟩)]
  res := [.cell 8 68]
  loopN := tab []
  loopR := tab []
  join := tab []
  loopX := tab []
  unroll := tab []
theorem drive_after_drive_Unload_1_G (d : Nat) : ∀ f sp, (drive_after_drive_Unload_1_e d).Γ f = some sp → SpecOK Try.prog f sp := tab_all (all_mem ⟨drive_own_ok d, drive_Unload_1_ok d, drive_first_ok d, trivial⟩)
theorem drive_after_drive_Unload_1_ok (d : Nat) : SpecOK Try.prog 32 ⟨[.v kDriveModel, .v kDrive, .v kCartridge, .f 50 [.ro kDriveModel]], [.v kdrive_done], fun x => drive_after_drive_Unload_1 d x.1 x.2.1 x.2.2.1 x.2.2.2⟩ :=
  fn_ok (e := drive_after_drive_Unload_1_e d) (c := bodyOf Try.f32) Try.func32 (by kernel_rfl) (by decide +kernel) mixed tau_ok (drive_after_drive_Unload_1_G d) rfl (by decide) (by decide) (by kernel_rfl) rfl (by decide) (fun C hC => loops_of (l := []) (by kernel_rfl) (all_mem trivial)) (fun x => by kernel_rfl)
def drive_Unload_e (d : Nat) : Env [.v kDrive, .v kCartridge, .v (.int .i64), .v (.int .i64)] where
  τ := tyTab types
  n := 24
  Γ := tab [(32, ⟨[.v kDriveModel, .v kDrive, .v kCartridge, .f 50 [.ro kDriveModel]], [.v kdrive_done], fun x => drive_after_drive_Unload_1 d x.1 x.2.1 x.2.2.1 x.2.2.2⟩)]
  res := [.cell 6 36, .cell 7 28, .tmp 8, .tmp 9]
  loopN := tab []
  loopR := tab []
  join := tab []
  loopX := tab []
  unroll := tab []
theorem drive_Unload_G (d : Nat) : ∀ f sp, (drive_Unload_e d).Γ f = some sp → SpecOK Try.prog f sp := tab_all (all_mem ⟨drive_after_drive_Unload_1_ok d, trivial⟩)
theorem drive_Unload_ok (d : Nat) : SpecOK Try.prog 25 ⟨[.v kDriveModel, .v kDrive, .v kCartridge], [.v kDrive, .v kCartridge, .v (.int .i64), .v (.int .i64)], fun x => drive_Unload d x.1 x.2.1 x.2.2⟩ :=
  fn_ok (e := drive_Unload_e d) (c := bodyOf Try.f25) Try.func25 (by kernel_rfl) (by decide +kernel) mixed tau_ok (drive_Unload_G d) rfl (by decide) (by decide) (by kernel_rfl) rfl (by decide) (fun C hC => loops_of (l := []) (by kernel_rfl) (all_mem trivial)) (fun x => by kernel_rfl)
def tapearchivelaw11_lives_e (d : Nat) : Env [.v .bool] where
  τ := tyTab types
  n := 143
  Γ := tab [(10, ⟨[.v kDriveModel, .v kDrive, .v kCartridge], [.v kDrive, .v kCartridge, .v (.int .i64), .v (.int .i64)], fun x => drive_Load d x.1 x.2.1 x.2.2⟩), (12, ⟨[.v kDriveModel, .v kDrive, .v kCartridge, .v (.int .i64)], [.v kDrive, .v kCartridge, .v (.int .i64), .v (.int .i64)], fun x => drive_Seek d x.1 x.2.1 x.2.2.1 x.2.2.2⟩), (15, ⟨[.v kDriveModel, .v kDrive, .v kCartridge, .v (.int .i64)], [.v kDrive, .v kCartridge, .v (.slice kBlock), .v (.int .i64), .v (.int .i64)], fun x => drive_Read d x.1 x.2.1 x.2.2.1 x.2.2.2⟩), (19, ⟨[.v kDriveModel, .v kDrive], [.v .bool], fun x => drive_Due d x.1 x.2⟩), (21, ⟨[.v kDriveModel, .v kCartridge], [.v .bool], fun x => drive_Worn d x.1 x.2⟩), (25, ⟨[.v kDriveModel, .v kDrive, .v kCartridge], [.v kDrive, .v kCartridge, .v (.int .i64), .v (.int .i64)], fun x => drive_Unload d x.1 x.2.1 x.2.2⟩)]
  res := [.tmp 0]
  loopN := tab [(0, ⟨⟨[(1, .ad 1 0), (2, .ad 2 0), (3, .p (.int .i64))], [(1, .agg 23 kDriveModel), (2, .cells 28 [.p .str, .p (.int .i64), .p (.int .i64), .p (.int .i64), .p (.int .i64), .p (.int .i64), .p (.int .i64), .p .bool, .p .bool, .slw 2000001 false, .p (.int .i64), .p (.int .i64), .p (.int .i64)]), (2000001, .list 61 kBlock)]⟩, ⟨[(1, .ad 1 0), (2, .ad 2 0)], [(1, .agg 23 kDriveModel), (2, .cells 28 [.p .str, .p (.int .i64), .p (.int .i64), .p (.int .i64), .p (.int .i64), .p (.int .i64), .p (.int .i64), .p .bool, .p .bool, .slw 2000001 false, .p (.int .i64), .p (.int .i64), .p (.int .i64)]), (2000001, .list 61 kBlock)]⟩, fun x => tapearchivelaw11_lives_l0 d d x.1 x.2.1 x.2.2.1 x.2.2.2.1 x.2.2.2.2.1 x.2.2.2.2.2.1 x.2.2.2.2.2.2.1 x.2.2.2.2.2.2.2.1 x.2.2.2.2.2.2.2.2.1 x.2.2.2.2.2.2.2.2.2.1 x.2.2.2.2.2.2.2.2.2.2.1 x.2.2.2.2.2.2.2.2.2.2.2.1 x.2.2.2.2.2.2.2.2.2.2.2.2.1 x.2.2.2.2.2.2.2.2.2.2.2.2.2.1 x.2.2.2.2.2.2.2.2.2.2.2.2.2.2⟩)]
  loopR := tab []
  join := tab [(12, ⟨[(1, .ad 1 0), (2, .ad 2 0), (4, .ad 4 0), (5, .p (.int .i64)), (6, .p (.int .i64)), (7, .p (.int .i64)), (8, .p (.int .i64)), (10, .p (.int .i64)), (11, .p (.int .i64))], [(1, .agg 23 kDriveModel), (2, .agg 28 kCartridge), (4, .agg 36 kDrive)]⟩)]
  loopX := tab []
  unroll := tab []
theorem tapearchivelaw11_lives_G (d : Nat) : ∀ f sp, (tapearchivelaw11_lives_e d).Γ f = some sp → SpecOK Try.prog f sp := tab_all (all_mem ⟨drive_Load_ok d, drive_Seek_ok d, drive_Read_ok d, drive_Due_ok d, drive_Worn_ok d, drive_Unload_ok d, trivial⟩)
theorem tapearchivelaw11_lives_l0_ok (d : Nat) (C : Cx) (hC : (tapearchivelaw11_lives_e d).n = C.n) : ∀ k, LoopN Try.prog C (loopAt (bodyOf Try.f8) 0) 0 ⟨⟨[(1, .ad 1 0), (2, .ad 2 0), (3, .p (.int .i64))], [(1, .agg 23 kDriveModel), (2, .cells 28 [.p .str, .p (.int .i64), .p (.int .i64), .p (.int .i64), .p (.int .i64), .p (.int .i64), .p (.int .i64), .p .bool, .p .bool, .slw 2000001 false, .p (.int .i64), .p (.int .i64), .p (.int .i64)]), (2000001, .list 61 kBlock)]⟩, ⟨[(1, .ad 1 0), (2, .ad 2 0)], [(1, .agg 23 kDriveModel), (2, .cells 28 [.p .str, .p (.int .i64), .p (.int .i64), .p (.int .i64), .p (.int .i64), .p (.int .i64), .p (.int .i64), .p .bool, .p .bool, .slw 2000001 false, .p (.int .i64), .p (.int .i64), .p (.int .i64)]), (2000001, .list 61 kBlock)]⟩, fun x => tapearchivelaw11_lives_l0 d k x.1 x.2.1 x.2.2.1 x.2.2.2.1 x.2.2.2.2.1 x.2.2.2.2.2.1 x.2.2.2.2.2.2.1 x.2.2.2.2.2.2.2.1 x.2.2.2.2.2.2.2.2.1 x.2.2.2.2.2.2.2.2.2.1 x.2.2.2.2.2.2.2.2.2.2.1 x.2.2.2.2.2.2.2.2.2.2.2.1 x.2.2.2.2.2.2.2.2.2.2.2.2.1 x.2.2.2.2.2.2.2.2.2.2.2.2.2.1 x.2.2.2.2.2.2.2.2.2.2.2.2.2.2⟩ :=
  loopN_ok (outs := [.v .bool]) ⟨[(1, .ad 1 0), (2, .ad 2 0), (3, .p (.int .i64))], [(1, .agg 23 kDriveModel), (2, .cells 28 [.p .str, .p (.int .i64), .p (.int .i64), .p (.int .i64), .p (.int .i64), .p (.int .i64), .p (.int .i64), .p .bool, .p .bool, .slw 2000001 false, .p (.int .i64), .p (.int .i64), .p (.int .i64)]), (2000001, .list 61 kBlock)]⟩ ⟨[(1, .ad 1 0), (2, .ad 2 0)], [(1, .agg 23 kDriveModel), (2, .cells 28 [.p .str, .p (.int .i64), .p (.int .i64), .p (.int .i64), .p (.int .i64), .p (.int .i64), .p (.int .i64), .p .bool, .p .bool, .slw 2000001 false, .p (.int .i64), .p (.int .i64), .p (.int .i64)]), (2000001, .list 61 kBlock)]⟩ (fun k x => tapearchivelaw11_lives_l0 d k x.1 x.2.1 x.2.2.1 x.2.2.2.1 x.2.2.2.2.1 x.2.2.2.2.2.1 x.2.2.2.2.2.2.1 x.2.2.2.2.2.2.2.1 x.2.2.2.2.2.2.2.2.1 x.2.2.2.2.2.2.2.2.2.1 x.2.2.2.2.2.2.2.2.2.2.1 x.2.2.2.2.2.2.2.2.2.2.2.1 x.2.2.2.2.2.2.2.2.2.2.2.2.1 x.2.2.2.2.2.2.2.2.2.2.2.2.2.1 x.2.2.2.2.2.2.2.2.2.2.2.2.2.2) (fun _ => tapearchivelaw11_lives_e d) (fun _ => ⟨tau_ok, hC, tapearchivelaw11_lives_G d⟩) mixed (fun _ => loops_of (l := []) (by kernel_rfl) (all_mem trivial)) (fun _ => rfl) (fun k x => by kernel_rfl)
theorem tapearchivelaw11_lives_ok (d : Nat) : SpecOK Try.prog 8 ⟨[], [.v .bool], fun x => tapearchivelaw11_lives d⟩ :=
  fn_ok (e := tapearchivelaw11_lives_e d) (c := bodyOf Try.f8) Try.func8 (by kernel_rfl) (by decide +kernel) mixed tau_ok (tapearchivelaw11_lives_G d) rfl (by decide) (by decide) (by kernel_rfl) rfl (by decide) (fun C hC => loops_of (l := [(0, loopAt (bodyOf Try.f8) 0)]) (by kernel_rfl) (all_mem ⟨⟨tab_none rfl, tab_one rfl (tapearchivelaw11_lives_l0_ok d C hC d), tab_none rfl, tab_none rfl⟩, trivial⟩)) (fun x => by kernel_rfl)
def tapearchivelaw11_small_e (d : Nat) : Env [.v .bool] where
  τ := tyTab types
  n := 17
  Γ := tab []
  res := [.tmp 2]
  loopN := tab []
  loopR := tab [(0, ⟨⟨[(0, .p (.slice kBlock)), (3, .p (.int .i64))], []⟩, ⟨[], []⟩, fun x => tapearchivelaw11_small_l0 d d x.1 x.2⟩)]
  join := tab []
  loopX := tab []
  unroll := tab []
theorem tapearchivelaw11_small_G (d : Nat) : ∀ f sp, (tapearchivelaw11_small_e d).Γ f = some sp → SpecOK Try.prog f sp := tab_all (all_mem trivial)
theorem tapearchivelaw11_small_l0_ok (d : Nat) (C : Cx) (hC : (tapearchivelaw11_small_e d).n = C.n) : ∀ k, LoopR Try.prog C (tapearchivelaw11_small_e d) (loopAt (bodyOf Try.f26) 0) 0 ⟨⟨[(0, .p (.slice kBlock)), (3, .p (.int .i64))], []⟩, ⟨[], []⟩, fun x => tapearchivelaw11_small_l0 d k x.1 x.2⟩ :=
  loopR_ok (outs := [.v .bool]) ⟨[(0, .p (.slice kBlock)), (3, .p (.int .i64))], []⟩ ⟨[], []⟩ (fun k x => tapearchivelaw11_small_l0 d k x.1 x.2) (fun _ => tapearchivelaw11_small_e d) (fun _ => ⟨tau_ok, hC, tapearchivelaw11_small_G d⟩) mixed (fun _ => loops_of (l := []) (by kernel_rfl) (all_mem trivial)) (fun _ => rfl) (fun _ => rfl) (fun _ => rfl) (fun k x => by kernel_rfl)
theorem tapearchivelaw11_small_ok (d : Nat) : SpecOK Try.prog 26 ⟨[.v (.slice kBlock)], [.v .bool], fun x => tapearchivelaw11_small d x⟩ :=
  fn_ok (e := tapearchivelaw11_small_e d) (c := bodyOf Try.f26) Try.func26 (by kernel_rfl) (by decide +kernel) mixed tau_ok (tapearchivelaw11_small_G d) rfl (by decide) (by decide) (by kernel_rfl) rfl (by decide) (fun C hC => loops_of (l := [(0, loopAt (bodyOf Try.f26) 0)]) (by kernel_rfl) (all_mem ⟨⟨tab_none rfl, tab_none rfl, tab_one rfl (tapearchivelaw11_small_l0_ok d C hC d), tab_none rfl⟩, trivial⟩)) (fun x => by kernel_rfl)
def tapearchivelaw11_few_e (d : Nat) : Env [.v .bool] where
  τ := tyTab types
  n := 62
  Γ := tab [(26, ⟨[.v (.slice kBlock)], [.v .bool], fun x => tapearchivelaw11_small d x⟩)]
  res := [.tmp 6]
  loopN := tab []
  loopR := tab [(0, ⟨⟨[(0, .p (.slice kCartridge)), (1, .p (.slice ktapearchivelaw11_Step)), (7, .p (.int .i64))], []⟩, ⟨[(1, .p (.slice ktapearchivelaw11_Step))], []⟩, fun x => tapearchivelaw11_few_l0 d d x.1 x.2.1 x.2.2⟩), (2, ⟨⟨[(1, .p (.slice ktapearchivelaw11_Step)), (8, .p (.int .i64))], []⟩, ⟨[], []⟩, fun x => tapearchivelaw11_few_l2 d d x.1 x.2⟩)]
  join := tab [(3, ⟨[(0, .p (.slice kCartridge)), (1, .p (.slice ktapearchivelaw11_Step))], []⟩)]
  loopX := tab []
  unroll := tab []
theorem tapearchivelaw11_few_G (d : Nat) : ∀ f sp, (tapearchivelaw11_few_e d).Γ f = some sp → SpecOK Try.prog f sp := tab_all (all_mem ⟨tapearchivelaw11_small_ok d, trivial⟩)
theorem tapearchivelaw11_few_l0_ok (d : Nat) (C : Cx) (hC : (tapearchivelaw11_few_e d).n = C.n) : ∀ k, LoopR Try.prog C (tapearchivelaw11_few_e d) (loopAt (bodyOf Try.f9) 0) 0 ⟨⟨[(0, .p (.slice kCartridge)), (1, .p (.slice ktapearchivelaw11_Step)), (7, .p (.int .i64))], []⟩, ⟨[(1, .p (.slice ktapearchivelaw11_Step))], []⟩, fun x => tapearchivelaw11_few_l0 d k x.1 x.2.1 x.2.2⟩ :=
  loopR_ok (outs := [.v .bool]) ⟨[(0, .p (.slice kCartridge)), (1, .p (.slice ktapearchivelaw11_Step)), (7, .p (.int .i64))], []⟩ ⟨[(1, .p (.slice ktapearchivelaw11_Step))], []⟩ (fun k x => tapearchivelaw11_few_l0 d k x.1 x.2.1 x.2.2) (fun _ => tapearchivelaw11_few_e d) (fun _ => ⟨tau_ok, hC, tapearchivelaw11_few_G d⟩) mixed (fun _ => loops_of (l := []) (by kernel_rfl) (all_mem trivial)) (fun _ => rfl) (fun _ => rfl) (fun _ => rfl) (fun k x => by kernel_rfl)
theorem tapearchivelaw11_few_l2_ok (d : Nat) (C : Cx) (hC : (tapearchivelaw11_few_e d).n = C.n) : ∀ k, LoopR Try.prog C (tapearchivelaw11_few_e d) (loopAt (bodyOf Try.f9) 1) 2 ⟨⟨[(1, .p (.slice ktapearchivelaw11_Step)), (8, .p (.int .i64))], []⟩, ⟨[], []⟩, fun x => tapearchivelaw11_few_l2 d k x.1 x.2⟩ :=
  loopR_ok (outs := [.v .bool]) ⟨[(1, .p (.slice ktapearchivelaw11_Step)), (8, .p (.int .i64))], []⟩ ⟨[], []⟩ (fun k x => tapearchivelaw11_few_l2 d k x.1 x.2) (fun _ => tapearchivelaw11_few_e d) (fun _ => ⟨tau_ok, hC, tapearchivelaw11_few_G d⟩) mixed (fun _ => loops_of (l := []) (by kernel_rfl) (all_mem trivial)) (fun _ => rfl) (fun _ => rfl) (fun _ => rfl) (fun k x => by kernel_rfl)
theorem tapearchivelaw11_few_ok (d : Nat) : SpecOK Try.prog 9 ⟨[.v (.slice kCartridge), .v (.slice ktapearchivelaw11_Step), .v (.int .i64)], [.v .bool], fun x => tapearchivelaw11_few d x.1 x.2.1 x.2.2⟩ :=
  fn_ok (e := tapearchivelaw11_few_e d) (c := bodyOf Try.f9) Try.func9 (by kernel_rfl) (by decide +kernel) mixed tau_ok (tapearchivelaw11_few_G d) rfl (by decide) (by decide) (by kernel_rfl) rfl (by decide) (fun C hC => loops_of (l := [(0, loopAt (bodyOf Try.f9) 0), (2, loopAt (bodyOf Try.f9) 1)]) (by kernel_rfl) (all_mem ⟨⟨tab_none rfl, tab_none rfl, tab_one rfl (tapearchivelaw11_few_l0_ok d C hC d), tab_none rfl⟩, ⟨tab_none rfl, tab_none rfl, tab_one rfl (tapearchivelaw11_few_l2_ok d C hC d), tab_none rfl⟩, trivial⟩)) (fun x => by kernel_rfl)
def tapearchiveref11_Copied_e (d : Nat) : Env [.v kCartridge] where
  τ := tyTab types
  n := 40
  Γ := tab []
  res := [.cell 2 28]
  loopN := tab [(0, ⟨⟨[(1, .ad 1 0), (2, .ad 2 0), (3, .slw 5 false), (4, .p (.int .i64))], [(1, .agg 28 kCartridge), (2, .agg 28 kCartridge), (5, .list 61 kBlock)]⟩, ⟨[(1, .ad 1 0), (2, .ad 2 0), (3, .slw 5 false)], [(1, .agg 28 kCartridge), (2, .agg 28 kCartridge), (5, .list 61 kBlock)]⟩, fun x => tapearchiveref11_Copied_l0 d d x.1 x.2.1 x.2.2.1 x.2.2.2⟩)]
  loopR := tab []
  join := tab []
  loopX := tab []
  unroll := tab []
theorem tapearchiveref11_Copied_G (d : Nat) : ∀ f sp, (tapearchiveref11_Copied_e d).Γ f = some sp → SpecOK Try.prog f sp := tab_all (all_mem trivial)
theorem tapearchiveref11_Copied_l0_ok (d : Nat) (C : Cx) (hC : (tapearchiveref11_Copied_e d).n = C.n) : ∀ k, LoopN Try.prog C (loopAt (bodyOf Try.f11) 0) 0 ⟨⟨[(1, .ad 1 0), (2, .ad 2 0), (3, .slw 5 false), (4, .p (.int .i64))], [(1, .agg 28 kCartridge), (2, .agg 28 kCartridge), (5, .list 61 kBlock)]⟩, ⟨[(1, .ad 1 0), (2, .ad 2 0), (3, .slw 5 false)], [(1, .agg 28 kCartridge), (2, .agg 28 kCartridge), (5, .list 61 kBlock)]⟩, fun x => tapearchiveref11_Copied_l0 d k x.1 x.2.1 x.2.2.1 x.2.2.2⟩ :=
  loopN_ok (outs := [.v kCartridge]) ⟨[(1, .ad 1 0), (2, .ad 2 0), (3, .slw 5 false), (4, .p (.int .i64))], [(1, .agg 28 kCartridge), (2, .agg 28 kCartridge), (5, .list 61 kBlock)]⟩ ⟨[(1, .ad 1 0), (2, .ad 2 0), (3, .slw 5 false)], [(1, .agg 28 kCartridge), (2, .agg 28 kCartridge), (5, .list 61 kBlock)]⟩ (fun k x => tapearchiveref11_Copied_l0 d k x.1 x.2.1 x.2.2.1 x.2.2.2) (fun _ => tapearchiveref11_Copied_e d) (fun _ => ⟨tau_ok, hC, tapearchiveref11_Copied_G d⟩) mixed (fun _ => loops_of (l := []) (by kernel_rfl) (all_mem trivial)) (fun _ => rfl) (fun k x => by kernel_rfl)
theorem tapearchiveref11_Copied_ok (d : Nat) : SpecOK Try.prog 11 ⟨[.v kCartridge], [.v kCartridge], fun x => tapearchiveref11_Copied d x⟩ :=
  fn_ok (e := tapearchiveref11_Copied_e d) (c := bodyOf Try.f11) Try.func11 (by kernel_rfl) (by decide +kernel) mixed tau_ok (tapearchiveref11_Copied_G d) rfl (by decide) (by decide) (by kernel_rfl) rfl (by decide) (fun C hC => loops_of (l := [(0, loopAt (bodyOf Try.f11) 0)]) (by kernel_rfl) (all_mem ⟨⟨tab_none rfl, tab_one rfl (tapearchiveref11_Copied_l0_ok d C hC d), tab_none rfl, tab_none rfl⟩, trivial⟩)) (fun x => by kernel_rfl)
def cartridge_writable_1_e (d : Nat) : Env [.v .bool] where
  τ := tyTab types
  n := 10
  Γ := tab [(52, ⟨[.v kBlock], [.v .bool], fun x => cartridge_block d x⟩)]
  res := [.tmp 2]
  loopN := tab []
  loopR := tab []
  join := tab []
  loopX := tab []
  unroll := tab []
theorem cartridge_writable_1_G (d : Nat) : ∀ f sp, (cartridge_writable_1_e d).Γ f = some sp → SpecOK Try.prog f sp := tab_all (all_mem ⟨cartridge_block_ok d, trivial⟩)
theorem cartridge_writable_1_ok (d : Nat) : SpecOK Try.prog 82 ⟨[.v kBlock], [.v .bool], fun x => cartridge_writable_1 d x⟩ :=
  fn_ok (e := cartridge_writable_1_e d) (c := bodyOf Try.f82) Try.func82 (by kernel_rfl) (by decide +kernel) mixed tau_ok (cartridge_writable_1_G d) rfl (by decide) (by decide) (by kernel_rfl) rfl (by decide) (fun C hC => loops_of (l := []) (by kernel_rfl) (all_mem trivial)) (fun x => by kernel_rfl)
def slices_IndexFunc_api_Block_cartridge_writable_1_e (d : Nat) : Env [.v (.int .i64)] where
  τ := tyTab types
  n := 19
  Γ := tab [(82, ⟨[.v kBlock], [.v .bool], fun x => cartridge_writable_1 d x⟩)]
  res := [.tmp 4]
  loopN := tab []
  loopR := tab [(0, ⟨⟨[(0, .p (.slice kBlock)), (1, .fn 82 []), (7, .p (.int .i64)), (8, .p (.int .i64))], []⟩, ⟨[], []⟩, fun x => slices_IndexFunc_api_Block_cartridge_writable_1_l0 d d x.1 x.2.1 x.2.2⟩)]
  join := tab []
  loopX := tab []
  unroll := tab []
theorem slices_IndexFunc_api_Block_cartridge_writable_1_G (d : Nat) : ∀ f sp, (slices_IndexFunc_api_Block_cartridge_writable_1_e d).Γ f = some sp → SpecOK Try.prog f sp := tab_all (all_mem ⟨cartridge_writable_1_ok d, trivial⟩)
theorem slices_IndexFunc_api_Block_cartridge_writable_1_l0_ok (d : Nat) (C : Cx) (hC : (slices_IndexFunc_api_Block_cartridge_writable_1_e d).n = C.n) : ∀ k, LoopR Try.prog C (slices_IndexFunc_api_Block_cartridge_writable_1_e d) (loopAt (bodyOf Try.f67) 0) 0 ⟨⟨[(0, .p (.slice kBlock)), (1, .fn 82 []), (7, .p (.int .i64)), (8, .p (.int .i64))], []⟩, ⟨[], []⟩, fun x => slices_IndexFunc_api_Block_cartridge_writable_1_l0 d k x.1 x.2.1 x.2.2⟩ :=
  loopR_ok (outs := [.v (.int .i64)]) ⟨[(0, .p (.slice kBlock)), (1, .fn 82 []), (7, .p (.int .i64)), (8, .p (.int .i64))], []⟩ ⟨[], []⟩ (fun k x => slices_IndexFunc_api_Block_cartridge_writable_1_l0 d k x.1 x.2.1 x.2.2) (fun _ => slices_IndexFunc_api_Block_cartridge_writable_1_e d) (fun _ => ⟨tau_ok, hC, slices_IndexFunc_api_Block_cartridge_writable_1_G d⟩) mixed (fun _ => loops_of (l := []) (by kernel_rfl) (all_mem trivial)) (fun _ => rfl) (fun _ => rfl) (fun _ => rfl) (fun k x => by kernel_rfl)
theorem slices_IndexFunc_api_Block_cartridge_writable_1_ok (d : Nat) : SpecOK Try.prog 67 ⟨[.v (.slice kBlock), .f 82 []], [.v (.int .i64)], fun x => slices_IndexFunc_api_Block_cartridge_writable_1 d x⟩ :=
  fn_ok (e := slices_IndexFunc_api_Block_cartridge_writable_1_e d) (c := bodyOf Try.f67) Try.func67 (by kernel_rfl) (by decide +kernel) mixed tau_ok (slices_IndexFunc_api_Block_cartridge_writable_1_G d) rfl (by decide) (by decide) (by kernel_rfl) rfl (by decide) (fun C hC => loops_of (l := [(0, loopAt (bodyOf Try.f67) 0)]) (by kernel_rfl) (all_mem ⟨⟨tab_none rfl, tab_none rfl, tab_one rfl (slices_IndexFunc_api_Block_cartridge_writable_1_l0_ok d C hC d), tab_none rfl⟩, trivial⟩)) (fun x => by kernel_rfl)
def slices_ContainsFunc_api_Block_cartridge_writable_1_e (d : Nat) : Env [.v .bool] where
  τ := tyTab types
  n := 9
  Γ := tab [(67, ⟨[.v (.slice kBlock), .f 82 []], [.v (.int .i64)], fun x => slices_IndexFunc_api_Block_cartridge_writable_1 d x⟩)]
  res := [.tmp 4]
  loopN := tab []
  loopR := tab []
  join := tab []
  loopX := tab []
  unroll := tab []
theorem slices_ContainsFunc_api_Block_cartridge_writable_1_G (d : Nat) : ∀ f sp, (slices_ContainsFunc_api_Block_cartridge_writable_1_e d).Γ f = some sp → SpecOK Try.prog f sp := tab_all (all_mem ⟨slices_IndexFunc_api_Block_cartridge_writable_1_ok d, trivial⟩)
theorem slices_ContainsFunc_api_Block_cartridge_writable_1_ok (d : Nat) : SpecOK Try.prog 57 ⟨[.v (.slice kBlock), .f 82 []], [.v .bool], fun x => slices_ContainsFunc_api_Block_cartridge_writable_1 d x⟩ :=
  fn_ok (e := slices_ContainsFunc_api_Block_cartridge_writable_1_e d) (c := bodyOf Try.f57) Try.func57 (by kernel_rfl) (by decide +kernel) mixed tau_ok (slices_ContainsFunc_api_Block_cartridge_writable_1_G d) rfl (by decide) (by decide) (by kernel_rfl) rfl (by decide) (fun C hC => loops_of (l := []) (by kernel_rfl) (all_mem trivial)) (fun x => by kernel_rfl)
def cartridge_writable_e (d : Nat) : Env [.v (.int .i64)] where
  τ := tyTab types
  n := 49
  Γ := tab [(29, ⟨[.v kCartridge], [.v .bool], fun x => cartridge_Valid d x⟩), (55, ⟨[.v kGeometry], [.v (.int .i64)], fun x => serpentine_Capacity d x⟩), (57, ⟨[.v (.slice kBlock), .f 82 []], [.v .bool], fun x => slices_ContainsFunc_api_Block_cartridge_writable_1 d x⟩)]
  res := [.tmp 6]
  loopN := tab []
  loopR := tab []
  join := tab []
  loopX := tab []
  unroll := tab []
theorem cartridge_writable_G (d : Nat) : ∀ f sp, (cartridge_writable_e d).Γ f = some sp → SpecOK Try.prog f sp := tab_all (all_mem ⟨cartridge_Valid_ok d, serpentine_Capacity_ok d, slices_ContainsFunc_api_Block_cartridge_writable_1_ok d, trivial⟩)
theorem cartridge_writable_ok (d : Nat) : SpecOK Try.prog 63 ⟨[.v kCartridge, .v (.int .i64), .v (.slice kBlock)], [.v (.int .i64)], fun x => cartridge_writable d x.1 x.2.1 x.2.2⟩ :=
  fn_ok (e := cartridge_writable_e d) (c := bodyOf Try.f63) Try.func63 (by kernel_rfl) (by decide +kernel) mixed tau_ok (cartridge_writable_G d) rfl (by decide) (by decide) (by kernel_rfl) rfl (by decide) (fun C hC => loops_of (l := []) (by kernel_rfl) (all_mem trivial)) (fun x => by kernel_rfl)
def cartridge_with_e (d : Nat) : Env [.v kCartridge] where
  τ := tyTab types
  n := 8
  Γ := tab []
  res := [.cell 4 28]
  loopN := tab []
  loopR := tab []
  join := tab []
  loopX := tab []
  unroll := tab []
theorem cartridge_with_G (d : Nat) : ∀ f sp, (cartridge_with_e d).Γ f = some sp → SpecOK Try.prog f sp := tab_all (all_mem trivial)
theorem cartridge_with_ok (d : Nat) : SpecOK Try.prog 64 ⟨[.v kCartridge, .v (.slice kBlock)], [.v kCartridge], fun x => cartridge_with d x.1 x.2⟩ :=
  fn_ok (e := cartridge_with_e d) (c := bodyOf Try.f64) Try.func64 (by kernel_rfl) (by decide +kernel) mixed tau_ok (cartridge_with_G d) rfl (by decide) (by decide) (by kernel_rfl) rfl (by decide) (fun C hC => loops_of (l := []) (by kernel_rfl) (all_mem trivial)) (fun x => by kernel_rfl)
def cartridge_Write_e (d : Nat) : Env [.v kCartridge, .v (.int .i64)] where
  τ := tyTab types
  n := 38
  Γ := tab [(63, ⟨[.v kCartridge, .v (.int .i64), .v (.slice kBlock)], [.v (.int .i64)], fun x => cartridge_writable d x.1 x.2.1 x.2.2⟩), (64, ⟨[.v kCartridge, .v (.slice kBlock)], [.v kCartridge], fun x => cartridge_with d x.1 x.2⟩), (65, ⟨[.v (.slice kBlock)], [.o 61 kBlock true], fun x => cartridge_copied d x⟩)]
  res := [.cell 6 28, .tmp 7]
  loopN := tab []
  loopR := tab []
  join := tab []
  loopX := tab []
  unroll := tab []
theorem cartridge_Write_G (d : Nat) : ∀ f sp, (cartridge_Write_e d).Γ f = some sp → SpecOK Try.prog f sp := tab_all (all_mem ⟨cartridge_writable_ok d, cartridge_with_ok d, cartridge_copied_ok d, trivial⟩)
theorem cartridge_Write_ok (d : Nat) : SpecOK Try.prog 38 ⟨[.v kCartridge, .v (.int .i64), .v (.slice kBlock)], [.v kCartridge, .v (.int .i64)], fun x => cartridge_Write d x.1 x.2.1 x.2.2⟩ :=
  fn_ok (e := cartridge_Write_e d) (c := bodyOf Try.f38) Try.func38 (by kernel_rfl) (by decide +kernel) mixed tau_ok (cartridge_Write_G d) rfl (by decide) (by decide) (by kernel_rfl) rfl (by decide) (fun C hC => loops_of (l := []) (by kernel_rfl) (all_mem trivial)) (fun x => by kernel_rfl)
def drive_Write_1_e (d : Nat) : Env [.b 0 68 kdrive_done] where
  τ := tyTab types
  n := 48
  Γ := tab [(21, ⟨[.v kDriveModel, .v kCartridge], [.v .bool], fun x => drive_Worn d x.1 x.2⟩), (38, ⟨[.v kCartridge, .v (.int .i64), .v (.slice kBlock)], [.v kCartridge, .v (.int .i64)], fun x => cartridge_Write d x.1 x.2.1 x.2.2⟩), (39, ⟨[.b 0 68 kdrive_done, .v (.int .i64)], [.b 0 68 kdrive_done], fun x => drive_done_passed d x.1 x.2⟩)]
  res := []
  loopN := tab []
  loopR := tab []
  join := tab []
  loopX := tab []
  unroll := tab []
theorem drive_Write_1_G (d : Nat) : ∀ f sp, (drive_Write_1_e d).Γ f = some sp → SpecOK Try.prog f sp := tab_all (all_mem ⟨drive_Worn_ok d, cartridge_Write_ok d, drive_done_passed_ok d, trivial⟩)
theorem drive_Write_1_ok (d : Nat) : SpecOK Try.prog 37 ⟨[.b 0 68 kdrive_done, .pl kDriveModel, .pl kCartridge, .pl (.slice kBlock)], [.b 0 68 kdrive_done], fun x => drive_Write_1 d x.1 x.2.1 x.2.2.1 x.2.2.2⟩ :=
  fn_ok (e := drive_Write_1_e d) (c := bodyOf Try.f37) Try.func37 (by kernel_rfl) (by decide +kernel) mixed tau_ok (drive_Write_1_G d) rfl (by decide) (by decide) (by kernel_rfl) rfl (by decide) (fun C hC => loops_of (l := []) (by kernel_rfl) (all_mem trivial)) (fun x => by kernel_rfl)
def drive_after_drive_Write_1_e (d : Nat) : Env [.v kdrive_done] where
  τ := tyTab types
  n := 37
  Γ := tab [(30, ⟨[.v kCartridge], [.v kCartridge], fun x => drive_own d x⟩), (37, ⟨[.b 0 68 kdrive_done, .pl kDriveModel, .pl kCartridge, .pl (.slice kBlock)], [.b 0 68 kdrive_done], fun x => drive_Write_1 d x.1 x.2.1 x.2.2.1 x.2.2.2⟩), (58, ⟨[.v kDriveModel, .v kDrive, .v kCartridge], [.v (.int .i64)], fun x => drive_first d x.1 x.2.1 x.2.2⟩)]
  res := [.cell 8 68]
  loopN := tab []
  loopR := tab []
  join := tab []
  loopX := tab []
  unroll := tab []
theorem drive_after_drive_Write_1_G (d : Nat) : ∀ f sp, (drive_after_drive_Write_1_e d).Γ f = some sp → SpecOK Try.prog f sp := tab_all (all_mem ⟨drive_own_ok d, drive_Write_1_ok d, drive_first_ok d, trivial⟩)
theorem drive_after_drive_Write_1_ok (d : Nat) : SpecOK Try.prog 32 ⟨[.v kDriveModel, .v kDrive, .v kCartridge, .f 37 [.ro kDriveModel, .ro kCartridge, .ro (.slice kBlock)]], [.v kdrive_done], fun x => drive_after_drive_Write_1 d x.1 x.2.1 x.2.2.1 x.2.2.2.1 x.2.2.2.2.1 x.2.2.2.2.2⟩ :=
  fn_ok (e := drive_after_drive_Write_1_e d) (c := bodyOf Try.f32) Try.func32 (by kernel_rfl) (by decide +kernel) mixed tau_ok (drive_after_drive_Write_1_G d) rfl (by decide) (by decide) (by kernel_rfl) rfl (by decide) (fun C hC => loops_of (l := []) (by kernel_rfl) (all_mem trivial)) (fun x => by kernel_rfl)
def drive_Write_e (d : Nat) : Env [.v kDrive, .v kCartridge, .v (.int .i64), .v (.int .i64)] where
  τ := tyTab types
  n := 26
  Γ := tab [(32, ⟨[.v kDriveModel, .v kDrive, .v kCartridge, .f 37 [.ro kDriveModel, .ro kCartridge, .ro (.slice kBlock)]], [.v kdrive_done], fun x => drive_after_drive_Write_1 d x.1 x.2.1 x.2.2.1 x.2.2.2.1 x.2.2.2.2.1 x.2.2.2.2.2⟩)]
  res := [.cell 8 36, .cell 9 28, .tmp 10, .tmp 11]
  loopN := tab []
  loopR := tab []
  join := tab []
  loopX := tab []
  unroll := tab []
theorem drive_Write_G (d : Nat) : ∀ f sp, (drive_Write_e d).Γ f = some sp → SpecOK Try.prog f sp := tab_all (all_mem ⟨drive_after_drive_Write_1_ok d, trivial⟩)
theorem drive_Write_ok (d : Nat) : SpecOK Try.prog 13 ⟨[.v kDriveModel, .v kDrive, .v kCartridge, .v (.slice kBlock)], [.v kDrive, .v kCartridge, .v (.int .i64), .v (.int .i64)], fun x => drive_Write d x.1 x.2.1 x.2.2.1 x.2.2.2⟩ :=
  fn_ok (e := drive_Write_e d) (c := bodyOf Try.f13) Try.func13 (by kernel_rfl) (by decide +kernel) mixed tau_ok (drive_Write_G d) rfl (by decide) (by decide) (by kernel_rfl) rfl (by decide) (fun C hC => loops_of (l := []) (by kernel_rfl) (all_mem trivial)) (fun x => by kernel_rfl)
def tapearchiveref11_SameBlocks_e (d : Nat) : Env [.v .bool] where
  τ := tyTab types
  n := 56
  Γ := tab []
  res := [.tmp 4]
  loopN := tab []
  loopR := tab [(0, ⟨⟨[(0, .p (.slice kBlock)), (1, .p (.slice kBlock)), (5, .p (.int .i64))], []⟩, ⟨[], []⟩, fun x => tapearchiveref11_SameBlocks_l0 d d x.1 x.2.1 x.2.2⟩)]
  join := tab []
  loopX := tab []
  unroll := tab []
theorem tapearchiveref11_SameBlocks_G (d : Nat) : ∀ f sp, (tapearchiveref11_SameBlocks_e d).Γ f = some sp → SpecOK Try.prog f sp := tab_all (all_mem trivial)
theorem tapearchiveref11_SameBlocks_l0_ok (d : Nat) (C : Cx) (hC : (tapearchiveref11_SameBlocks_e d).n = C.n) : ∀ k, LoopR Try.prog C (tapearchiveref11_SameBlocks_e d) (loopAt (bodyOf Try.f14) 0) 0 ⟨⟨[(0, .p (.slice kBlock)), (1, .p (.slice kBlock)), (5, .p (.int .i64))], []⟩, ⟨[], []⟩, fun x => tapearchiveref11_SameBlocks_l0 d k x.1 x.2.1 x.2.2⟩ :=
  loopR_ok (outs := [.v .bool]) ⟨[(0, .p (.slice kBlock)), (1, .p (.slice kBlock)), (5, .p (.int .i64))], []⟩ ⟨[], []⟩ (fun k x => tapearchiveref11_SameBlocks_l0 d k x.1 x.2.1 x.2.2) (fun _ => tapearchiveref11_SameBlocks_e d) (fun _ => ⟨tau_ok, hC, tapearchiveref11_SameBlocks_G d⟩) mixed (fun _ => loops_of (l := []) (by kernel_rfl) (all_mem trivial)) (fun _ => rfl) (fun _ => rfl) (fun _ => rfl) (fun k x => by kernel_rfl)
theorem tapearchiveref11_SameBlocks_ok (d : Nat) : SpecOK Try.prog 14 ⟨[.v (.slice kBlock), .v (.slice kBlock)], [.v .bool], fun x => tapearchiveref11_SameBlocks d x.1 x.2⟩ :=
  fn_ok (e := tapearchiveref11_SameBlocks_e d) (c := bodyOf Try.f14) Try.func14 (by kernel_rfl) (by decide +kernel) mixed tau_ok (tapearchiveref11_SameBlocks_G d) rfl (by decide) (by decide) (by kernel_rfl) rfl (by decide) (fun C hC => loops_of (l := [(0, loopAt (bodyOf Try.f14) 0)]) (by kernel_rfl) (all_mem ⟨⟨tab_none rfl, tab_none rfl, tab_one rfl (tapearchiveref11_SameBlocks_l0_ok d C hC d), tab_none rfl⟩, trivial⟩)) (fun x => by kernel_rfl)
def tapearchivelaw11_DriveReads_e (d : Nat) : Env [.v .bool] where
  τ := tyTab types
  n := 130
  Γ := tab [(8, ⟨[], [.v .bool], fun x => tapearchivelaw11_lives d⟩), (9, ⟨[.v (.slice kCartridge), .v (.slice ktapearchivelaw11_Step), .v (.int .i64)], [.v .bool], fun x => tapearchivelaw11_few d x.1 x.2.1 x.2.2⟩), (10, ⟨[.v kDriveModel, .v kDrive, .v kCartridge], [.v kDrive, .v kCartridge, .v (.int .i64), .v (.int .i64)], fun x => drive_Load d x.1 x.2.1 x.2.2⟩), (11, ⟨[.v kCartridge], [.v kCartridge], fun x => tapearchiveref11_Copied d x⟩), (12, ⟨[.v kDriveModel, .v kDrive, .v kCartridge, .v (.int .i64)], [.v kDrive, .v kCartridge, .v (.int .i64), .v (.int .i64)], fun x => drive_Seek d x.1 x.2.1 x.2.2.1 x.2.2.2⟩), (13, ⟨[.v kDriveModel, .v kDrive, .v kCartridge, .v (.slice kBlock)], [.v kDrive, .v kCartridge, .v (.int .i64), .v (.int .i64)], fun x => drive_Write d x.1 x.2.1 x.2.2.1 x.2.2.2⟩), (14, ⟨[.v (.slice kBlock), .v (.slice kBlock)], [.v .bool], fun x => tapearchiveref11_SameBlocks d x.1 x.2⟩), (15, ⟨[.v kDriveModel, .v kDrive, .v kCartridge, .v (.int .i64)], [.v kDrive, .v kCartridge, .v (.slice kBlock), .v (.int .i64), .v (.int .i64)], fun x => drive_Read d x.1 x.2.1 x.2.2.1 x.2.2.2⟩)]
  res := [.tmp 8]
  loopN := tab []
  loopR := tab []
  join := tab [(16, ⟨[(2, .p (.int .i64)), (3, .p (.slice kBlock)), (4, .ad 4 0), (9, .ad 9 0), (10, .ad 10 0)], [(4, .agg 23 kDriveModel), (9, .agg 36 kDrive), (10, .agg 28 kCartridge)]⟩)]
  loopX := tab []
  unroll := tab []
theorem tapearchivelaw11_DriveReads_G (d : Nat) : ∀ f sp, (tapearchivelaw11_DriveReads_e d).Γ f = some sp → SpecOK Try.prog f sp := tab_all (all_mem ⟨tapearchivelaw11_lives_ok d, tapearchivelaw11_few_ok d, drive_Load_ok d, tapearchiveref11_Copied_ok d, drive_Seek_ok d, drive_Write_ok d, tapearchiveref11_SameBlocks_ok d, drive_Read_ok d, trivial⟩)
theorem tapearchivelaw11_DriveReads_ok (d : Nat) : SpecOK Try.prog 3 ⟨[.v kDriveModel, .v kCartridge, .v (.int .i64), .v (.slice kBlock)], [.v .bool], fun x => tapearchivelaw11_DriveReads d x.1 x.2.1 x.2.2.1 x.2.2.2⟩ :=
  fn_ok (e := tapearchivelaw11_DriveReads_e d) (c := bodyOf Try.f3) Try.func3 (by kernel_rfl) (by decide +kernel) mixed tau_ok (tapearchivelaw11_DriveReads_G d) rfl (by decide) (by decide) (by kernel_rfl) rfl (by decide) (fun C hC => loops_of (l := []) (by kernel_rfl) (all_mem trivial)) (fun x => by kernel_rfl)
def drive_Clean_e (d : Nat) : Env [.v kDrive, .v (.int .i64), .v (.int .i64)] where
  τ := tyTab types
  n := 31
  Γ := tab [(27, ⟨[.v kDriveModel], [.v .bool], fun x => drive_sound d x⟩), (28, ⟨[.v kDrive], [.v .bool], fun x => drive_valid d x⟩)]
  res := [.cell 4 36, .tmp 5, .tmp 6]
  loopN := tab []
  loopR := tab []
  join := tab [(7, ⟨[(2, .ad 2 0), (3, .ad 3 0), (4, .ad 4 0)], [(2, .agg 23 kDriveModel), (3, .agg 36 kDrive), (4, .agg 36 kDrive)]⟩)]
  loopX := tab []
  unroll := tab []
theorem drive_Clean_G (d : Nat) : ∀ f sp, (drive_Clean_e d).Γ f = some sp → SpecOK Try.prog f sp := tab_all (all_mem ⟨drive_sound_ok d, drive_valid_ok d, trivial⟩)
theorem drive_Clean_ok (d : Nat) : SpecOK Try.prog 24 ⟨[.v kDriveModel, .v kDrive], [.v kDrive, .v (.int .i64), .v (.int .i64)], fun x => drive_Clean d x.1 x.2⟩ :=
  fn_ok (e := drive_Clean_e d) (c := bodyOf Try.f24) Try.func24 (by kernel_rfl) (by decide +kernel) mixed tau_ok (drive_Clean_G d) rfl (by decide) (by decide) (by kernel_rfl) rfl (by decide) (fun C hC => loops_of (l := []) (by kernel_rfl) (all_mem trivial)) (fun x => by kernel_rfl)
def tapearchivelaw11_program_e (d : Nat) : Env [.v ktapearchivelaw11_Done] where
  τ := tyTab types
  n := 109
  Γ := tab [(10, ⟨[.v kDriveModel, .v kDrive, .v kCartridge], [.v kDrive, .v kCartridge, .v (.int .i64), .v (.int .i64)], fun x => drive_Load d x.1 x.2.1 x.2.2⟩), (12, ⟨[.v kDriveModel, .v kDrive, .v kCartridge, .v (.int .i64)], [.v kDrive, .v kCartridge, .v (.int .i64), .v (.int .i64)], fun x => drive_Seek d x.1 x.2.1 x.2.2.1 x.2.2.2⟩), (13, ⟨[.v kDriveModel, .v kDrive, .v kCartridge, .v (.slice kBlock)], [.v kDrive, .v kCartridge, .v (.int .i64), .v (.int .i64)], fun x => drive_Write d x.1 x.2.1 x.2.2.1 x.2.2.2⟩), (15, ⟨[.v kDriveModel, .v kDrive, .v kCartridge, .v (.int .i64)], [.v kDrive, .v kCartridge, .v (.slice kBlock), .v (.int .i64), .v (.int .i64)], fun x => drive_Read d x.1 x.2.1 x.2.2.1 x.2.2.2⟩), (24, ⟨[.v kDriveModel, .v kDrive], [.v kDrive, .v (.int .i64), .v (.int .i64)], fun x => drive_Clean d x.1 x.2⟩), (25, ⟨[.v kDriveModel, .v kDrive, .v kCartridge], [.v kDrive, .v kCartridge, .v (.int .i64), .v (.int .i64)], fun x => drive_Unload d x.1 x.2.1 x.2.2⟩)]
  res := [.cell 8 48]
  loopN := tab []
  loopR := tab []
  join := tab []
  loopX := tab []
  unroll := tab []
theorem tapearchivelaw11_program_G (d : Nat) : ∀ f sp, (tapearchivelaw11_program_e d).Γ f = some sp → SpecOK Try.prog f sp := tab_all (all_mem ⟨drive_Load_ok d, drive_Seek_ok d, drive_Write_ok d, drive_Read_ok d, drive_Clean_ok d, drive_Unload_ok d, trivial⟩)
theorem tapearchivelaw11_program_ok (d : Nat) : SpecOK Try.prog 16 ⟨[.v kDriveModel, .v kDrive, .v kCartridge, .v ktapearchivelaw11_Step], [.v ktapearchivelaw11_Done], fun x => tapearchivelaw11_program d x.1 x.2.1 x.2.2.1 x.2.2.2⟩ :=
  fn_ok (e := tapearchivelaw11_program_e d) (c := bodyOf Try.f16) Try.func16 (by kernel_rfl) (by decide +kernel) mixed tau_ok (tapearchivelaw11_program_G d) rfl (by decide) (by decide) (by kernel_rfl) rfl (by decide) (fun C hC => loops_of (l := []) (by kernel_rfl) (all_mem trivial)) (fun x => by kernel_rfl)
def tapearchiveref11_Due_e (d : Nat) : Env [.v .bool] where
  τ := tyTab types
  n := 15
  Γ := tab []
  res := [.tmp 4]
  loopN := tab []
  loopR := tab []
  join := tab []
  loopX := tab []
  unroll := tab []
theorem tapearchiveref11_Due_G (d : Nat) : ∀ f sp, (tapearchiveref11_Due_e d).Γ f = some sp → SpecOK Try.prog f sp := tab_all (all_mem trivial)
theorem tapearchiveref11_Due_ok (d : Nat) : SpecOK Try.prog 20 ⟨[.v kDriveModel, .v kDrive], [.v .bool], fun x => tapearchiveref11_Due d x.1 x.2⟩ :=
  fn_ok (e := tapearchiveref11_Due_e d) (c := bodyOf Try.f20) Try.func20 (by kernel_rfl) (by decide +kernel) mixed tau_ok (tapearchiveref11_Due_G d) rfl (by decide) (by decide) (by kernel_rfl) rfl (by decide) (fun C hC => loops_of (l := []) (by kernel_rfl) (all_mem trivial)) (fun x => by kernel_rfl)
def tapearchiveref11_count_e (d : Nat) : Env [.v .bool] where
  τ := tyTab types
  n := 9
  Γ := tab []
  res := [.tmp 2]
  loopN := tab []
  loopR := tab []
  join := tab []
  loopX := tab []
  unroll := tab []
theorem tapearchiveref11_count_G (d : Nat) : ∀ f sp, (tapearchiveref11_count_e d).Γ f = some sp → SpecOK Try.prog f sp := tab_all (all_mem trivial)
theorem tapearchiveref11_count_ok (d : Nat) : SpecOK Try.prog 84 ⟨[.v (.int .i64)], [.v .bool], fun x => tapearchiveref11_count d x⟩ :=
  fn_ok (e := tapearchiveref11_count_e d) (c := bodyOf Try.f84) Try.func84 (by kernel_rfl) (by decide +kernel) mixed tau_ok (tapearchiveref11_count_G d) rfl (by decide) (by decide) (by kernel_rfl) rfl (by decide) (fun C hC => loops_of (l := []) (by kernel_rfl) (all_mem trivial)) (fun x => by kernel_rfl)
def tapearchiveref11_model_e (d : Nat) : Env [.v .bool] where
  τ := tyTab types
  n := 41
  Γ := tab [(84, ⟨[.v (.int .i64)], [.v .bool], fun x => tapearchiveref11_count d x⟩)]
  res := [.tmp 2]
  loopN := tab []
  loopR := tab []
  join := tab []
  loopX := tab []
  unroll := tab []
theorem tapearchiveref11_model_G (d : Nat) : ∀ f sp, (tapearchiveref11_model_e d).Γ f = some sp → SpecOK Try.prog f sp := tab_all (all_mem ⟨tapearchiveref11_count_ok d, trivial⟩)
theorem tapearchiveref11_model_ok (d : Nat) : SpecOK Try.prog 69 ⟨[.v kDriveModel], [.v .bool], fun x => tapearchiveref11_model d x⟩ :=
  fn_ok (e := tapearchiveref11_model_e d) (c := bodyOf Try.f69) Try.func69 (by kernel_rfl) (by decide +kernel) mixed tau_ok (tapearchiveref11_model_G d) rfl (by decide) (by decide) (by kernel_rfl) rfl (by decide) (fun C hC => loops_of (l := []) (by kernel_rfl) (all_mem trivial)) (fun x => by kernel_rfl)
def tapearchiveref11_drive_e (d : Nat) : Env [.v .bool] where
  τ := tyTab types
  n := 52
  Γ := tab [(84, ⟨[.v (.int .i64)], [.v .bool], fun x => tapearchiveref11_count d x⟩)]
  res := [.tmp 2]
  loopN := tab []
  loopR := tab []
  join := tab [(3, ⟨[(1, .ad 1 0)], [(1, .agg 36 kDrive)]⟩)]
  loopX := tab []
  unroll := tab []
theorem tapearchiveref11_drive_G (d : Nat) : ∀ f sp, (tapearchiveref11_drive_e d).Γ f = some sp → SpecOK Try.prog f sp := tab_all (all_mem ⟨tapearchiveref11_count_ok d, trivial⟩)
theorem tapearchiveref11_drive_ok (d : Nat) : SpecOK Try.prog 70 ⟨[.v kDrive], [.v .bool], fun x => tapearchiveref11_drive d x⟩ :=
  fn_ok (e := tapearchiveref11_drive_e d) (c := bodyOf Try.f70) Try.func70 (by kernel_rfl) (by decide +kernel) mixed tau_ok (tapearchiveref11_drive_G d) rfl (by decide) (by decide) (by kernel_rfl) rfl (by decide) (fun C hC => loops_of (l := []) (by kernel_rfl) (all_mem trivial)) (fun x => by kernel_rfl)
def tapearchiveref09_time_e (d : Nat) : Env [.v .bool] where
  τ := tyTab types
  n := 9
  Γ := tab []
  res := [.tmp 2]
  loopN := tab []
  loopR := tab []
  join := tab []
  loopX := tab []
  unroll := tab []
theorem tapearchiveref09_time_G (d : Nat) : ∀ f sp, (tapearchiveref09_time_e d).Γ f = some sp → SpecOK Try.prog f sp := tab_all (all_mem trivial)
theorem tapearchiveref09_time_ok (d : Nat) : SpecOK Try.prog 90 ⟨[.v (.int .i64)], [.v .bool], fun x => tapearchiveref09_time d x⟩ :=
  fn_ok (e := tapearchiveref09_time_e d) (c := bodyOf Try.f90) Try.func90 (by kernel_rfl) (by decide +kernel) mixed tau_ok (tapearchiveref09_time_G d) rfl (by decide) (by decide) (by kernel_rfl) rfl (by decide) (fun C hC => loops_of (l := []) (by kernel_rfl) (all_mem trivial)) (fun x => by kernel_rfl)
def tapearchiveref09_Valid_e (d : Nat) : Env [.v .bool] where
  τ := tyTab types
  n := 47
  Γ := tab [(90, ⟨[.v (.int .i64)], [.v .bool], fun x => tapearchiveref09_time d x⟩)]
  res := [.tmp 2]
  loopN := tab []
  loopR := tab []
  join := tab [(3, ⟨[(1, .ad 1 0)], [(1, .agg 25 kGeometry)]⟩)]
  loopX := tab []
  unroll := tab []
theorem tapearchiveref09_Valid_G (d : Nat) : ∀ f sp, (tapearchiveref09_Valid_e d).Γ f = some sp → SpecOK Try.prog f sp := tab_all (all_mem ⟨tapearchiveref09_time_ok d, trivial⟩)
theorem tapearchiveref09_Valid_ok (d : Nat) : SpecOK Try.prog 79 ⟨[.v kGeometry], [.v .bool], fun x => tapearchiveref09_Valid d x⟩ :=
  fn_ok (e := tapearchiveref09_Valid_e d) (c := bodyOf Try.f79) Try.func79 (by kernel_rfl) (by decide +kernel) mixed tau_ok (tapearchiveref09_Valid_G d) rfl (by decide) (by decide) (by kernel_rfl) rfl (by decide) (fun C hC => loops_of (l := []) (by kernel_rfl) (all_mem trivial)) (fun x => by kernel_rfl)
def tapearchiveref09_Capacity_e (d : Nat) : Env [.v (.int .i64)] where
  τ := tyTab types
  n := 11
  Γ := tab [(79, ⟨[.v kGeometry], [.v .bool], fun x => tapearchiveref09_Valid d x⟩)]
  res := [.tmp 2]
  loopN := tab []
  loopR := tab []
  join := tab []
  loopX := tab []
  unroll := tab []
theorem tapearchiveref09_Capacity_G (d : Nat) : ∀ f sp, (tapearchiveref09_Capacity_e d).Γ f = some sp → SpecOK Try.prog f sp := tab_all (all_mem ⟨tapearchiveref09_Valid_ok d, trivial⟩)
theorem tapearchiveref09_Capacity_ok (d : Nat) : SpecOK Try.prog 78 ⟨[.v kGeometry], [.v (.int .i64)], fun x => tapearchiveref09_Capacity d x⟩ :=
  fn_ok (e := tapearchiveref09_Capacity_e d) (c := bodyOf Try.f78) Try.func78 (by kernel_rfl) (by decide +kernel) mixed tau_ok (tapearchiveref09_Capacity_G d) rfl (by decide) (by decide) (by kernel_rfl) rfl (by decide) (fun C hC => loops_of (l := []) (by kernel_rfl) (all_mem trivial)) (fun x => by kernel_rfl)
def tapearchiveref10_Barcode_e (d : Nat) : Env [.v .bool] where
  τ := tyTab types
  n := 41
  Γ := tab []
  res := [.tmp 2]
  loopN := tab []
  loopR := tab [(0, ⟨⟨[(0, .p .str), (3, .p (.int .i64))], []⟩, ⟨[(0, .p .str)], []⟩, fun x => tapearchiveref10_Barcode_l0 d d x.1 x.2⟩)]
  join := tab []
  loopX := tab []
  unroll := tab []
theorem tapearchiveref10_Barcode_G (d : Nat) : ∀ f sp, (tapearchiveref10_Barcode_e d).Γ f = some sp → SpecOK Try.prog f sp := tab_all (all_mem trivial)
theorem tapearchiveref10_Barcode_l0_ok (d : Nat) (C : Cx) (hC : (tapearchiveref10_Barcode_e d).n = C.n) : ∀ k, LoopR Try.prog C (tapearchiveref10_Barcode_e d) (loopAt (bodyOf Try.f85) 0) 0 ⟨⟨[(0, .p .str), (3, .p (.int .i64))], []⟩, ⟨[(0, .p .str)], []⟩, fun x => tapearchiveref10_Barcode_l0 d k x.1 x.2⟩ :=
  loopR_ok (outs := [.v .bool]) ⟨[(0, .p .str), (3, .p (.int .i64))], []⟩ ⟨[(0, .p .str)], []⟩ (fun k x => tapearchiveref10_Barcode_l0 d k x.1 x.2) (fun _ => tapearchiveref10_Barcode_e d) (fun _ => ⟨tau_ok, hC, tapearchiveref10_Barcode_G d⟩) mixed (fun _ => loops_of (l := []) (by kernel_rfl) (all_mem trivial)) (fun _ => rfl) (fun _ => rfl) (fun _ => rfl) (fun k x => by kernel_rfl)
theorem tapearchiveref10_Barcode_ok (d : Nat) : SpecOK Try.prog 85 ⟨[.v .str], [.v .bool], fun x => tapearchiveref10_Barcode d x⟩ :=
  fn_ok (e := tapearchiveref10_Barcode_e d) (c := bodyOf Try.f85) Try.func85 (by kernel_rfl) (by decide +kernel) mixed tau_ok (tapearchiveref10_Barcode_G d) rfl (by decide) (by decide) (by kernel_rfl) rfl (by decide) (fun C hC => loops_of (l := [(0, loopAt (bodyOf Try.f85) 0)]) (by kernel_rfl) (all_mem ⟨⟨tab_none rfl, tab_none rfl, tab_one rfl (tapearchiveref10_Barcode_l0_ok d C hC d), tab_none rfl⟩, trivial⟩)) (fun x => by kernel_rfl)
def tapearchiveref10_block_e (d : Nat) : Env [.v .bool] where
  τ := tyTab types
  n := 19
  Γ := tab []
  res := [.tmp 2]
  loopN := tab []
  loopR := tab []
  join := tab []
  loopX := tab []
  unroll := tab []
theorem tapearchiveref10_block_G (d : Nat) : ∀ f sp, (tapearchiveref10_block_e d).Γ f = some sp → SpecOK Try.prog f sp := tab_all (all_mem trivial)
theorem tapearchiveref10_block_ok (d : Nat) : SpecOK Try.prog 86 ⟨[.v kBlock], [.v .bool], fun x => tapearchiveref10_block d x⟩ :=
  fn_ok (e := tapearchiveref10_block_e d) (c := bodyOf Try.f86) Try.func86 (by kernel_rfl) (by decide +kernel) mixed tau_ok (tapearchiveref10_block_G d) rfl (by decide) (by decide) (by kernel_rfl) rfl (by decide) (fun C hC => loops_of (l := []) (by kernel_rfl) (all_mem trivial)) (fun x => by kernel_rfl)
def tapearchiveref10_count_e (d : Nat) : Env [.v .bool] where
  τ := tyTab types
  n := 9
  Γ := tab []
  res := [.tmp 2]
  loopN := tab []
  loopR := tab []
  join := tab []
  loopX := tab []
  unroll := tab []
theorem tapearchiveref10_count_G (d : Nat) : ∀ f sp, (tapearchiveref10_count_e d).Γ f = some sp → SpecOK Try.prog f sp := tab_all (all_mem trivial)
theorem tapearchiveref10_count_ok (d : Nat) : SpecOK Try.prog 87 ⟨[.v (.int .i64)], [.v .bool], fun x => tapearchiveref10_count d x⟩ :=
  fn_ok (e := tapearchiveref10_count_e d) (c := bodyOf Try.f87) Try.func87 (by kernel_rfl) (by decide +kernel) mixed tau_ok (tapearchiveref10_count_G d) rfl (by decide) (by decide) (by kernel_rfl) rfl (by decide) (fun C hC => loops_of (l := []) (by kernel_rfl) (all_mem trivial)) (fun x => by kernel_rfl)
def tapearchiveref10_Valid_e (d : Nat) : Env [.v .bool] where
  τ := tyTab types
  n := 50
  Γ := tab [(78, ⟨[.v kGeometry], [.v (.int .i64)], fun x => tapearchiveref09_Capacity d x⟩), (79, ⟨[.v kGeometry], [.v .bool], fun x => tapearchiveref09_Valid d x⟩), (85, ⟨[.v .str], [.v .bool], fun x => tapearchiveref10_Barcode d x⟩), (86, ⟨[.v kBlock], [.v .bool], fun x => tapearchiveref10_block d x⟩), (87, ⟨[.v (.int .i64)], [.v .bool], fun x => tapearchiveref10_count d x⟩)]
  res := [.tmp 2]
  loopN := tab []
  loopR := tab [(0, ⟨⟨[(1, .ad 1 0), (3, .p (.int .i64))], [(1, .agg 28 kCartridge)]⟩, ⟨[(1, .ad 1 0)], [(1, .agg 28 kCartridge)]⟩, fun x => tapearchiveref10_Valid_l0 d d x.1 x.2⟩)]
  join := tab [(3, ⟨[(1, .ad 1 0)], [(1, .agg 28 kCartridge)]⟩)]
  loopX := tab []
  unroll := tab []
theorem tapearchiveref10_Valid_G (d : Nat) : ∀ f sp, (tapearchiveref10_Valid_e d).Γ f = some sp → SpecOK Try.prog f sp := tab_all (all_mem ⟨tapearchiveref09_Capacity_ok d, tapearchiveref09_Valid_ok d, tapearchiveref10_Barcode_ok d, tapearchiveref10_block_ok d, tapearchiveref10_count_ok d, trivial⟩)
theorem tapearchiveref10_Valid_l0_ok (d : Nat) (C : Cx) (hC : (tapearchiveref10_Valid_e d).n = C.n) : ∀ k, LoopR Try.prog C (tapearchiveref10_Valid_e d) (loopAt (bodyOf Try.f71) 0) 0 ⟨⟨[(1, .ad 1 0), (3, .p (.int .i64))], [(1, .agg 28 kCartridge)]⟩, ⟨[(1, .ad 1 0)], [(1, .agg 28 kCartridge)]⟩, fun x => tapearchiveref10_Valid_l0 d k x.1 x.2⟩ :=
  loopR_ok (outs := [.v .bool]) ⟨[(1, .ad 1 0), (3, .p (.int .i64))], [(1, .agg 28 kCartridge)]⟩ ⟨[(1, .ad 1 0)], [(1, .agg 28 kCartridge)]⟩ (fun k x => tapearchiveref10_Valid_l0 d k x.1 x.2) (fun _ => tapearchiveref10_Valid_e d) (fun _ => ⟨tau_ok, hC, tapearchiveref10_Valid_G d⟩) mixed (fun _ => loops_of (l := []) (by kernel_rfl) (all_mem trivial)) (fun _ => rfl) (fun _ => rfl) (fun _ => rfl) (fun k x => by kernel_rfl)
theorem tapearchiveref10_Valid_ok (d : Nat) : SpecOK Try.prog 71 ⟨[.v kCartridge], [.v .bool], fun x => tapearchiveref10_Valid d x⟩ :=
  fn_ok (e := tapearchiveref10_Valid_e d) (c := bodyOf Try.f71) Try.func71 (by kernel_rfl) (by decide +kernel) mixed tau_ok (tapearchiveref10_Valid_G d) rfl (by decide) (by decide) (by kernel_rfl) rfl (by decide) (fun C hC => loops_of (l := [(0, loopAt (bodyOf Try.f71) 0)]) (by kernel_rfl) (all_mem ⟨⟨tab_none rfl, tab_none rfl, tab_one rfl (tapearchiveref10_Valid_l0_ok d C hC d), tab_none rfl⟩, trivial⟩)) (fun x => by kernel_rfl)
def tapearchiveref11_more_e (d : Nat) : Env [.v (.int .i64)] where
  τ := tyTab types
  n := 9
  Γ := tab []
  res := [.tmp 4]
  loopN := tab []
  loopR := tab []
  join := tab []
  loopX := tab []
  unroll := tab []
theorem tapearchiveref11_more_G (d : Nat) : ∀ f sp, (tapearchiveref11_more_e d).Γ f = some sp → SpecOK Try.prog f sp := tab_all (all_mem trivial)
theorem tapearchiveref11_more_ok (d : Nat) : SpecOK Try.prog 72 ⟨[.v (.int .i64), .v (.int .i64)], [.v (.int .i64)], fun x => tapearchiveref11_more d x.1 x.2⟩ :=
  fn_ok (e := tapearchiveref11_more_e d) (c := bodyOf Try.f72) Try.func72 (by kernel_rfl) (by decide +kernel) mixed tau_ok (tapearchiveref11_more_G d) rfl (by decide) (by decide) (by kernel_rfl) rfl (by decide) (fun C hC => loops_of (l := []) (by kernel_rfl) (all_mem trivial)) (fun x => by kernel_rfl)
def tapearchiveref11_Load_e (d : Nat) : Env [.v kDrive, .v kCartridge, .v (.int .i64), .v (.int .i64)] where
  τ := tyTab types
  n := 59
  Γ := tab [(20, ⟨[.v kDriveModel, .v kDrive], [.v .bool], fun x => tapearchiveref11_Due d x.1 x.2⟩), (69, ⟨[.v kDriveModel], [.v .bool], fun x => tapearchiveref11_model d x⟩), (70, ⟨[.v kDrive], [.v .bool], fun x => tapearchiveref11_drive d x⟩), (71, ⟨[.v kCartridge], [.v .bool], fun x => tapearchiveref10_Valid d x⟩), (72, ⟨[.v (.int .i64), .v (.int .i64)], [.v (.int .i64)], fun x => tapearchiveref11_more d x.1 x.2⟩)]
  res := [.cell 6 36, .cell 7 28, .tmp 8, .tmp 9]
  loopN := tab []
  loopR := tab []
  join := tab [(10, ⟨[(3, .ad 3 0), (4, .ad 4 0), (5, .ad 5 0), (6, .ad 6 0), (7, .ad 7 0), (10, .p (.int .i64))], [(3, .agg 23 kDriveModel), (4, .agg 36 kDrive), (5, .agg 28 kCartridge), (6, .agg 36 kDrive), (7, .agg 28 kCartridge)]⟩)]
  loopX := tab []
  unroll := tab []
theorem tapearchiveref11_Load_G (d : Nat) : ∀ f sp, (tapearchiveref11_Load_e d).Γ f = some sp → SpecOK Try.prog f sp := tab_all (all_mem ⟨tapearchiveref11_Due_ok d, tapearchiveref11_model_ok d, tapearchiveref11_drive_ok d, tapearchiveref10_Valid_ok d, tapearchiveref11_more_ok d, trivial⟩)
theorem tapearchiveref11_Load_ok (d : Nat) : SpecOK Try.prog 42 ⟨[.v kDriveModel, .v kDrive, .v kCartridge], [.v kDrive, .v kCartridge, .v (.int .i64), .v (.int .i64)], fun x => tapearchiveref11_Load d x.1 x.2.1 x.2.2⟩ :=
  fn_ok (e := tapearchiveref11_Load_e d) (c := bodyOf Try.f42) Try.func42 (by kernel_rfl) (by decide +kernel) mixed tau_ok (tapearchiveref11_Load_G d) rfl (by decide) (by decide) (by kernel_rfl) rfl (by decide) (fun C hC => loops_of (l := []) (by kernel_rfl) (all_mem trivial)) (fun x => by kernel_rfl)
def tapearchiveref09_Place_e (d : Nat) : Env [.v kPlace, .v .bool] where
  τ := tyTab types
  n := 67
  Γ := tab [(76, ⟨[.v kGeometry, .v (.int .i64)], [.v kPlace, .v .bool], fun x => tapearchiveref09_Place d x.1 x.2⟩), (78, ⟨[.v kGeometry], [.v (.int .i64)], fun x => tapearchiveref09_Capacity d x⟩), (79, ⟨[.v kGeometry], [.v .bool], fun x => tapearchiveref09_Valid d x⟩)]
  res := [.cell 4 94, .tmp 5]
  loopN := tab []
  loopR := tab []
  join := tab [(3, ⟨[(1, .p (.int .i64)), (2, .ad 2 0), (4, .ad 4 0)], [(2, .agg 25 kGeometry), (4, .agg 94 kPlace)]⟩)]
  loopX := tab []
  unroll := tab []
theorem tapearchiveref09_Place_G (d : Nat) (hR : SpecOK Try.prog 76 ⟨[.v kGeometry, .v (.int .i64)], [.v kPlace, .v .bool], fun x => tapearchiveref09_Place d x.1 x.2⟩) : ∀ f sp, (tapearchiveref09_Place_e d).Γ f = some sp → SpecOK Try.prog f sp := tab_all (all_mem ⟨hR, tapearchiveref09_Capacity_ok d, tapearchiveref09_Valid_ok d, trivial⟩)
theorem tapearchiveref09_Place_ok : ∀ (d : Nat), SpecOK Try.prog 76 ⟨[.v kGeometry, .v (.int .i64)], [.v kPlace, .v .bool], fun x => tapearchiveref09_Place d x.1 x.2⟩
  | 0 => spec_none (c := bodyOf Try.f76) Try.func76 (by kernel_rfl) (by decide +kernel) rfl (fun x => rfl)
  | d + 1 => by
    have hR := tapearchiveref09_Place_ok d
    exact fn_ok (e := tapearchiveref09_Place_e d) (c := bodyOf Try.f76) Try.func76 (by kernel_rfl) (by decide +kernel) mixed tau_ok (tapearchiveref09_Place_G d hR) rfl (by decide) (by decide) (by kernel_rfl) rfl (by decide) (fun C hC => loops_of (l := []) (by kernel_rfl) (all_mem trivial)) (fun x => by kernel_rfl)
def tapearchiveref09_size_e (d : Nat) : Env [.v (.int .i64)] where
  τ := tyTab types
  n := 8
  Γ := tab []
  res := [.tmp 2]
  loopN := tab []
  loopR := tab []
  join := tab []
  loopX := tab []
  unroll := tab []
theorem tapearchiveref09_size_G (d : Nat) : ∀ f sp, (tapearchiveref09_size_e d).Γ f = some sp → SpecOK Try.prog f sp := tab_all (all_mem trivial)
theorem tapearchiveref09_size_ok (d : Nat) : SpecOK Try.prog 77 ⟨[.v (.int .i64)], [.v (.int .i64)], fun x => tapearchiveref09_size d x⟩ :=
  fn_ok (e := tapearchiveref09_size_e d) (c := bodyOf Try.f77) Try.func77 (by kernel_rfl) (by decide +kernel) mixed tau_ok (tapearchiveref09_size_G d) rfl (by decide) (by decide) (by kernel_rfl) rfl (by decide) (fun C hC => loops_of (l := []) (by kernel_rfl) (all_mem trivial)) (fun x => by kernel_rfl)
def tapearchiveref09_Locate_e (d : Nat) : Env [.v (.int .i64)] where
  τ := tyTab types
  n := 87
  Γ := tab [(76, ⟨[.v kGeometry, .v (.int .i64)], [.v kPlace, .v .bool], fun x => tapearchiveref09_Place d x.1 x.2⟩), (77, ⟨[.v (.int .i64)], [.v (.int .i64)], fun x => tapearchiveref09_size d x⟩)]
  res := [.tmp 6]
  loopN := tab []
  loopR := tab []
  join := tab [(5, ⟨[(3, .ad 3 0), (7, .ad 7 0), (9, .ad 9 0)], [(3, .agg 25 kGeometry), (7, .agg 94 kPlace), (9, .agg 94 kPlace)]⟩)]
  loopX := tab []
  unroll := tab []
theorem tapearchiveref09_Locate_G (d : Nat) : ∀ f sp, (tapearchiveref09_Locate_e d).Γ f = some sp → SpecOK Try.prog f sp := tab_all (all_mem ⟨tapearchiveref09_Place_ok d, tapearchiveref09_size_ok d, trivial⟩)
theorem tapearchiveref09_Locate_ok (d : Nat) : SpecOK Try.prog 48 ⟨[.v kGeometry, .v (.int .i64), .v (.int .i64)], [.v (.int .i64)], fun x => tapearchiveref09_Locate d x.1 x.2.1 x.2.2⟩ :=
  fn_ok (e := tapearchiveref09_Locate_e d) (c := bodyOf Try.f48) Try.func48 (by kernel_rfl) (by decide +kernel) mixed tau_ok (tapearchiveref09_Locate_G d) rfl (by decide) (by decide) (by kernel_rfl) rfl (by decide) (fun C hC => loops_of (l := []) (by kernel_rfl) (all_mem trivial)) (fun x => by kernel_rfl)
def tapearchiveref11_first_e (d : Nat) : Env [.v (.int .i64)] where
  τ := tyTab types
  n := 42
  Γ := tab [(69, ⟨[.v kDriveModel], [.v .bool], fun x => tapearchiveref11_model d x⟩), (70, ⟨[.v kDrive], [.v .bool], fun x => tapearchiveref11_drive d x⟩), (71, ⟨[.v kCartridge], [.v .bool], fun x => tapearchiveref10_Valid d x⟩)]
  res := [.tmp 6]
  loopN := tab []
  loopR := tab []
  join := tab []
  loopX := tab []
  unroll := tab []
theorem tapearchiveref11_first_G (d : Nat) : ∀ f sp, (tapearchiveref11_first_e d).Γ f = some sp → SpecOK Try.prog f sp := tab_all (all_mem ⟨tapearchiveref11_model_ok d, tapearchiveref11_drive_ok d, tapearchiveref10_Valid_ok d, trivial⟩)
theorem tapearchiveref11_first_ok (d : Nat) : SpecOK Try.prog 73 ⟨[.v kDriveModel, .v kDrive, .v kCartridge], [.v (.int .i64)], fun x => tapearchiveref11_first d x.1 x.2.1 x.2.2⟩ :=
  fn_ok (e := tapearchiveref11_first_e d) (c := bodyOf Try.f73) Try.func73 (by kernel_rfl) (by decide +kernel) mixed tau_ok (tapearchiveref11_first_G d) rfl (by decide) (by decide) (by kernel_rfl) rfl (by decide) (fun C hC => loops_of (l := []) (by kernel_rfl) (all_mem trivial)) (fun x => by kernel_rfl)
def tapearchiveref09_Passes_e (d : Nat) : Env [.v (.int .i64)] where
  τ := tyTab types
  n := 43
  Γ := tab [(76, ⟨[.v kGeometry, .v (.int .i64)], [.v kPlace, .v .bool], fun x => tapearchiveref09_Place d x.1 x.2⟩), (77, ⟨[.v (.int .i64)], [.v (.int .i64)], fun x => tapearchiveref09_size d x⟩)]
  res := [.tmp 6]
  loopN := tab []
  loopR := tab []
  join := tab [(5, ⟨[(3, .ad 3 0), (7, .ad 7 0), (9, .ad 9 0)], [(3, .agg 25 kGeometry), (7, .agg 94 kPlace), (9, .agg 94 kPlace)]⟩)]
  loopX := tab []
  unroll := tab []
theorem tapearchiveref09_Passes_G (d : Nat) : ∀ f sp, (tapearchiveref09_Passes_e d).Γ f = some sp → SpecOK Try.prog f sp := tab_all (all_mem ⟨tapearchiveref09_Place_ok d, tapearchiveref09_size_ok d, trivial⟩)
theorem tapearchiveref09_Passes_ok (d : Nat) : SpecOK Try.prog 88 ⟨[.v kGeometry, .v (.int .i64), .v (.int .i64)], [.v (.int .i64)], fun x => tapearchiveref09_Passes d x.1 x.2.1 x.2.2⟩ :=
  fn_ok (e := tapearchiveref09_Passes_e d) (c := bodyOf Try.f88) Try.func88 (by kernel_rfl) (by decide +kernel) mixed tau_ok (tapearchiveref09_Passes_G d) rfl (by decide) (by decide) (by kernel_rfl) rfl (by decide) (fun C hC => loops_of (l := []) (by kernel_rfl) (all_mem trivial)) (fun x => by kernel_rfl)
def tapearchiveref11_move_e (d : Nat) : Env [.v kDrive, .v kCartridge] where
  τ := tyTab types
  n := 34
  Γ := tab [(72, ⟨[.v (.int .i64), .v (.int .i64)], [.v (.int .i64)], fun x => tapearchiveref11_more d x.1 x.2⟩), (88, ⟨[.v kGeometry, .v (.int .i64), .v (.int .i64)], [.v (.int .i64)], fun x => tapearchiveref09_Passes d x.1 x.2.1 x.2.2⟩)]
  res := [.cell 6 36, .cell 7 28]
  loopN := tab []
  loopR := tab []
  join := tab []
  loopX := tab []
  unroll := tab []
theorem tapearchiveref11_move_G (d : Nat) : ∀ f sp, (tapearchiveref11_move_e d).Γ f = some sp → SpecOK Try.prog f sp := tab_all (all_mem ⟨tapearchiveref11_more_ok d, tapearchiveref09_Passes_ok d, trivial⟩)
theorem tapearchiveref11_move_ok (d : Nat) : SpecOK Try.prog 74 ⟨[.v kDrive, .v kCartridge, .v (.int .i64)], [.v kDrive, .v kCartridge], fun x => tapearchiveref11_move d x.1 x.2.1 x.2.2⟩ :=
  fn_ok (e := tapearchiveref11_move_e d) (c := bodyOf Try.f74) Try.func74 (by kernel_rfl) (by decide +kernel) mixed tau_ok (tapearchiveref11_move_G d) rfl (by decide) (by decide) (by kernel_rfl) rfl (by decide) (fun C hC => loops_of (l := []) (by kernel_rfl) (all_mem trivial)) (fun x => by kernel_rfl)
def tapearchiveref11_Unload_e (d : Nat) : Env [.v kDrive, .v kCartridge, .v (.int .i64), .v (.int .i64)] where
  τ := tyTab types
  n := 40
  Γ := tab [(48, ⟨[.v kGeometry, .v (.int .i64), .v (.int .i64)], [.v (.int .i64)], fun x => tapearchiveref09_Locate d x.1 x.2.1 x.2.2⟩), (73, ⟨[.v kDriveModel, .v kDrive, .v kCartridge], [.v (.int .i64)], fun x => tapearchiveref11_first d x.1 x.2.1 x.2.2⟩), (74, ⟨[.v kDrive, .v kCartridge, .v (.int .i64)], [.v kDrive, .v kCartridge], fun x => tapearchiveref11_move d x.1 x.2.1 x.2.2⟩)]
  res := [.cell 6 36, .cell 7 28, .tmp 8, .tmp 9]
  loopN := tab []
  loopR := tab []
  join := tab []
  loopX := tab []
  unroll := tab []
theorem tapearchiveref11_Unload_G (d : Nat) : ∀ f sp, (tapearchiveref11_Unload_e d).Γ f = some sp → SpecOK Try.prog f sp := tab_all (all_mem ⟨tapearchiveref09_Locate_ok d, tapearchiveref11_first_ok d, tapearchiveref11_move_ok d, trivial⟩)
theorem tapearchiveref11_Unload_ok (d : Nat) : SpecOK Try.prog 43 ⟨[.v kDriveModel, .v kDrive, .v kCartridge], [.v kDrive, .v kCartridge, .v (.int .i64), .v (.int .i64)], fun x => tapearchiveref11_Unload d x.1 x.2.1 x.2.2⟩ :=
  fn_ok (e := tapearchiveref11_Unload_e d) (c := bodyOf Try.f43) Try.func43 (by kernel_rfl) (by decide +kernel) mixed tau_ok (tapearchiveref11_Unload_G d) rfl (by decide) (by decide) (by kernel_rfl) rfl (by decide) (fun C hC => loops_of (l := []) (by kernel_rfl) (all_mem trivial)) (fun x => by kernel_rfl)
def tapearchiveref11_Seek_e (d : Nat) : Env [.v kDrive, .v kCartridge, .v (.int .i64), .v (.int .i64)] where
  τ := tyTab types
  n := 52
  Γ := tab [(48, ⟨[.v kGeometry, .v (.int .i64), .v (.int .i64)], [.v (.int .i64)], fun x => tapearchiveref09_Locate d x.1 x.2.1 x.2.2⟩), (73, ⟨[.v kDriveModel, .v kDrive, .v kCartridge], [.v (.int .i64)], fun x => tapearchiveref11_first d x.1 x.2.1 x.2.2⟩), (74, ⟨[.v kDrive, .v kCartridge, .v (.int .i64)], [.v kDrive, .v kCartridge], fun x => tapearchiveref11_move d x.1 x.2.1 x.2.2⟩)]
  res := [.cell 8 36, .cell 9 28, .tmp 10, .tmp 11]
  loopN := tab []
  loopR := tab []
  join := tab [(4, ⟨[(3, .p (.int .i64)), (5, .ad 5 0), (6, .ad 6 0), (8, .ad 8 0), (9, .ad 9 0), (12, .p (.int .i64))], [(5, .agg 36 kDrive), (6, .agg 28 kCartridge), (8, .agg 36 kDrive), (9, .agg 28 kCartridge)]⟩)]
  loopX := tab []
  unroll := tab []
theorem tapearchiveref11_Seek_G (d : Nat) : ∀ f sp, (tapearchiveref11_Seek_e d).Γ f = some sp → SpecOK Try.prog f sp := tab_all (all_mem ⟨tapearchiveref09_Locate_ok d, tapearchiveref11_first_ok d, tapearchiveref11_move_ok d, trivial⟩)
theorem tapearchiveref11_Seek_ok (d : Nat) : SpecOK Try.prog 44 ⟨[.v kDriveModel, .v kDrive, .v kCartridge, .v (.int .i64)], [.v kDrive, .v kCartridge, .v (.int .i64), .v (.int .i64)], fun x => tapearchiveref11_Seek d x.1 x.2.1 x.2.2.1 x.2.2.2⟩ :=
  fn_ok (e := tapearchiveref11_Seek_e d) (c := bodyOf Try.f44) Try.func44 (by kernel_rfl) (by decide +kernel) mixed tau_ok (tapearchiveref11_Seek_G d) rfl (by decide) (by decide) (by kernel_rfl) rfl (by decide) (fun C hC => loops_of (l := []) (by kernel_rfl) (all_mem trivial)) (fun x => by kernel_rfl)
def tapearchiveref09_Read_e (d : Nat) : Env [.v (.int .i64)] where
  τ := tyTab types
  n := 74
  Γ := tab [(78, ⟨[.v kGeometry], [.v (.int .i64)], fun x => tapearchiveref09_Capacity d x⟩), (79, ⟨[.v kGeometry], [.v .bool], fun x => tapearchiveref09_Valid d x⟩)]
  res := [.tmp 4]
  loopN := tab [(0, ⟨⟨[(2, .ad 2 0), (3, .ad 3 0), (6, .p (.int .i64)), (7, .p (.int .i64))], [(2, .agg 25 kGeometry), (3, .agg 82 kSpan)]⟩, ⟨[(6, .p (.int .i64))], []⟩, fun x => tapearchiveref09_Read_l0 d d x.1 x.2.1 x.2.2.1 x.2.2.2⟩)]
  loopR := tab []
  join := tab [(4, ⟨[(2, .ad 2 0), (3, .ad 3 0)], [(2, .agg 25 kGeometry), (3, .agg 82 kSpan)]⟩)]
  loopX := tab []
  unroll := tab []
theorem tapearchiveref09_Read_G (d : Nat) : ∀ f sp, (tapearchiveref09_Read_e d).Γ f = some sp → SpecOK Try.prog f sp := tab_all (all_mem ⟨tapearchiveref09_Capacity_ok d, tapearchiveref09_Valid_ok d, trivial⟩)
theorem tapearchiveref09_Read_l0_ok (d : Nat) (C : Cx) (hC : (tapearchiveref09_Read_e d).n = C.n) : ∀ k, LoopN Try.prog C (loopAt (bodyOf Try.f49) 0) 0 ⟨⟨[(2, .ad 2 0), (3, .ad 3 0), (6, .p (.int .i64)), (7, .p (.int .i64))], [(2, .agg 25 kGeometry), (3, .agg 82 kSpan)]⟩, ⟨[(6, .p (.int .i64))], []⟩, fun x => tapearchiveref09_Read_l0 d k x.1 x.2.1 x.2.2.1 x.2.2.2⟩ :=
  loopN_ok (outs := [.v (.int .i64)]) ⟨[(2, .ad 2 0), (3, .ad 3 0), (6, .p (.int .i64)), (7, .p (.int .i64))], [(2, .agg 25 kGeometry), (3, .agg 82 kSpan)]⟩ ⟨[(6, .p (.int .i64))], []⟩ (fun k x => tapearchiveref09_Read_l0 d k x.1 x.2.1 x.2.2.1 x.2.2.2) (fun _ => tapearchiveref09_Read_e d) (fun _ => ⟨tau_ok, hC, tapearchiveref09_Read_G d⟩) mixed (fun _ => loops_of (l := []) (by kernel_rfl) (all_mem trivial)) (fun _ => rfl) (fun k x => by kernel_rfl)
theorem tapearchiveref09_Read_ok (d : Nat) : SpecOK Try.prog 49 ⟨[.v kGeometry, .v kSpan], [.v (.int .i64)], fun x => tapearchiveref09_Read d x.1 x.2⟩ :=
  fn_ok (e := tapearchiveref09_Read_e d) (c := bodyOf Try.f49) Try.func49 (by kernel_rfl) (by decide +kernel) mixed tau_ok (tapearchiveref09_Read_G d) rfl (by decide) (by decide) (by kernel_rfl) rfl (by decide) (fun C hC => loops_of (l := [(0, loopAt (bodyOf Try.f49) 0)]) (by kernel_rfl) (all_mem ⟨⟨tab_none rfl, tab_one rfl (tapearchiveref09_Read_l0_ok d C hC d), tab_none rfl, tab_none rfl⟩, trivial⟩)) (fun x => by kernel_rfl)
def tapearchiveref11_Read_e (d : Nat) : Env [.v kDrive, .v kCartridge, .v (.slice kBlock), .v (.int .i64), .v (.int .i64)] where
  τ := tyTab types
  n := 106
  Γ := tab [(49, ⟨[.v kGeometry, .v kSpan], [.v (.int .i64)], fun x => tapearchiveref09_Read d x.1 x.2⟩), (73, ⟨[.v kDriveModel, .v kDrive, .v kCartridge], [.v (.int .i64)], fun x => tapearchiveref11_first d x.1 x.2.1 x.2.2⟩), (74, ⟨[.v kDrive, .v kCartridge, .v (.int .i64)], [.v kDrive, .v kCartridge], fun x => tapearchiveref11_move d x.1 x.2.1 x.2.2⟩)]
  res := [.cell 8 36, .cell 9 28, .tmp 10, .tmp 11, .tmp 12]
  loopN := tab [(0, ⟨⟨[(3, .p (.int .i64)), (5, .ad 5 0), (6, .ad 6 0), (8, .ad 8 0), (9, .ad 9 0), (13, .p (.int .i64)), (14, .slw 42 false)], [(5, .agg 36 kDrive), (6, .agg 28 kCartridge), (8, .agg 36 kDrive), (9, .agg 28 kCartridge), (42, .list 61 kBlock)]⟩, ⟨[(3, .p (.int .i64)), (5, .ad 5 0), (6, .ad 6 0), (8, .ad 8 0), (9, .ad 9 0), (13, .p (.int .i64)), (14, .slw 42 false)], [(5, .agg 36 kDrive), (6, .agg 28 kCartridge), (8, .agg 36 kDrive), (9, .agg 28 kCartridge), (42, .list 61 kBlock)]⟩, fun x => tapearchiveref11_Read_l0 d d x.1 x.2.1 x.2.2.1 x.2.2.2.1 x.2.2.2.2.1 x.2.2.2.2.2.1 x.2.2.2.2.2.2⟩)]
  loopR := tab []
  join := tab [(4, ⟨[(3, .p (.int .i64)), (5, .ad 5 0), (6, .ad 6 0), (8, .ad 8 0), (9, .ad 9 0), (13, .p (.int .i64))], [(5, .agg 36 kDrive), (6, .agg 28 kCartridge), (8, .agg 36 kDrive), (9, .agg 28 kCartridge)]⟩), (8, ⟨[(3, .p (.int .i64)), (5, .ad 5 0), (6, .ad 6 0), (8, .ad 8 0), (9, .ad 9 0), (13, .p (.int .i64)), (14, .slw 42 false)], [(5, .agg 36 kDrive), (6, .agg 28 kCartridge), (8, .agg 36 kDrive), (9, .agg 28 kCartridge), (42, .list 61 kBlock)]⟩), (13, ⟨[(5, .ad 5 0), (6, .ad 6 0), (8, .ad 8 0), (9, .ad 9 0), (13, .p (.int .i64)), (14, .slw 42 false)], [(5, .agg 36 kDrive), (6, .agg 28 kCartridge), (8, .agg 36 kDrive), (9, .agg 28 kCartridge), (42, .list 61 kBlock)]⟩)]
  loopX := tab []
  unroll := tab []
theorem tapearchiveref11_Read_G (d : Nat) : ∀ f sp, (tapearchiveref11_Read_e d).Γ f = some sp → SpecOK Try.prog f sp := tab_all (all_mem ⟨tapearchiveref09_Read_ok d, tapearchiveref11_first_ok d, tapearchiveref11_move_ok d, trivial⟩)
theorem tapearchiveref11_Read_l0_ok (d : Nat) (C : Cx) (hC : (tapearchiveref11_Read_e d).n = C.n) : ∀ k, LoopN Try.prog C (loopAt (bodyOf Try.f45) 0) 0 ⟨⟨[(3, .p (.int .i64)), (5, .ad 5 0), (6, .ad 6 0), (8, .ad 8 0), (9, .ad 9 0), (13, .p (.int .i64)), (14, .slw 42 false)], [(5, .agg 36 kDrive), (6, .agg 28 kCartridge), (8, .agg 36 kDrive), (9, .agg 28 kCartridge), (42, .list 61 kBlock)]⟩, ⟨[(3, .p (.int .i64)), (5, .ad 5 0), (6, .ad 6 0), (8, .ad 8 0), (9, .ad 9 0), (13, .p (.int .i64)), (14, .slw 42 false)], [(5, .agg 36 kDrive), (6, .agg 28 kCartridge), (8, .agg 36 kDrive), (9, .agg 28 kCartridge), (42, .list 61 kBlock)]⟩, fun x => tapearchiveref11_Read_l0 d k x.1 x.2.1 x.2.2.1 x.2.2.2.1 x.2.2.2.2.1 x.2.2.2.2.2.1 x.2.2.2.2.2.2⟩ :=
  loopN_ok (outs := [.v kDrive, .v kCartridge, .v (.slice kBlock), .v (.int .i64), .v (.int .i64)]) ⟨[(3, .p (.int .i64)), (5, .ad 5 0), (6, .ad 6 0), (8, .ad 8 0), (9, .ad 9 0), (13, .p (.int .i64)), (14, .slw 42 false)], [(5, .agg 36 kDrive), (6, .agg 28 kCartridge), (8, .agg 36 kDrive), (9, .agg 28 kCartridge), (42, .list 61 kBlock)]⟩ ⟨[(3, .p (.int .i64)), (5, .ad 5 0), (6, .ad 6 0), (8, .ad 8 0), (9, .ad 9 0), (13, .p (.int .i64)), (14, .slw 42 false)], [(5, .agg 36 kDrive), (6, .agg 28 kCartridge), (8, .agg 36 kDrive), (9, .agg 28 kCartridge), (42, .list 61 kBlock)]⟩ (fun k x => tapearchiveref11_Read_l0 d k x.1 x.2.1 x.2.2.1 x.2.2.2.1 x.2.2.2.2.1 x.2.2.2.2.2.1 x.2.2.2.2.2.2) (fun _ => tapearchiveref11_Read_e d) (fun _ => ⟨tau_ok, hC, tapearchiveref11_Read_G d⟩) mixed (fun _ => loops_of (l := []) (by kernel_rfl) (all_mem trivial)) (fun _ => rfl) (fun k x => by kernel_rfl)
theorem tapearchiveref11_Read_ok (d : Nat) : SpecOK Try.prog 45 ⟨[.v kDriveModel, .v kDrive, .v kCartridge, .v (.int .i64)], [.v kDrive, .v kCartridge, .v (.slice kBlock), .v (.int .i64), .v (.int .i64)], fun x => tapearchiveref11_Read d x.1 x.2.1 x.2.2.1 x.2.2.2⟩ :=
  fn_ok (e := tapearchiveref11_Read_e d) (c := bodyOf Try.f45) Try.func45 (by kernel_rfl) (by decide +kernel) mixed tau_ok (tapearchiveref11_Read_G d) rfl (by decide) (by decide) (by kernel_rfl) rfl (by decide) (fun C hC => loops_of (l := [(0, loopAt (bodyOf Try.f45) 0)]) (by kernel_rfl) (all_mem ⟨⟨tab_none rfl, tab_one rfl (tapearchiveref11_Read_l0_ok d C hC d), tab_none rfl, tab_none rfl⟩, trivial⟩)) (fun x => by kernel_rfl)
def tapearchiveref11_Worn_e (d : Nat) : Env [.v .bool] where
  τ := tyTab types
  n := 15
  Γ := tab []
  res := [.tmp 4]
  loopN := tab []
  loopR := tab []
  join := tab []
  loopX := tab []
  unroll := tab []
theorem tapearchiveref11_Worn_G (d : Nat) : ∀ f sp, (tapearchiveref11_Worn_e d).Γ f = some sp → SpecOK Try.prog f sp := tab_all (all_mem trivial)
theorem tapearchiveref11_Worn_ok (d : Nat) : SpecOK Try.prog 22 ⟨[.v kDriveModel, .v kCartridge], [.v .bool], fun x => tapearchiveref11_Worn d x.1 x.2⟩ :=
  fn_ok (e := tapearchiveref11_Worn_e d) (c := bodyOf Try.f22) Try.func22 (by kernel_rfl) (by decide +kernel) mixed tau_ok (tapearchiveref11_Worn_G d) rfl (by decide) (by decide) (by kernel_rfl) rfl (by decide) (fun C hC => loops_of (l := []) (by kernel_rfl) (all_mem trivial)) (fun x => by kernel_rfl)
def tapearchiveref10_Copied_e (d : Nat) : Env [.o 61 kBlock false] where
  τ := tyTab types
  n := 29
  Γ := tab []
  res := [.tmp 2]
  loopN := tab [(0, ⟨⟨[(0, .p (.slice kBlock)), (3, .slw 2000001 false), (4, .p (.int .i64))], [(2000001, .list 61 kBlock)]⟩, ⟨[(3, .slw 2000001 false)], [(2000001, .list 61 kBlock)]⟩, fun x => tapearchiveref10_Copied_l0 d d x.1 x.2.1 x.2.2⟩)]
  loopR := tab []
  join := tab []
  loopX := tab []
  unroll := tab []
theorem tapearchiveref10_Copied_G (d : Nat) : ∀ f sp, (tapearchiveref10_Copied_e d).Γ f = some sp → SpecOK Try.prog f sp := tab_all (all_mem trivial)
theorem tapearchiveref10_Copied_l0_ok (d : Nat) (C : Cx) (hC : (tapearchiveref10_Copied_e d).n = C.n) : ∀ k, LoopN Try.prog C (loopAt (bodyOf Try.f89) 0) 0 ⟨⟨[(0, .p (.slice kBlock)), (3, .slw 2000001 false), (4, .p (.int .i64))], [(2000001, .list 61 kBlock)]⟩, ⟨[(3, .slw 2000001 false)], [(2000001, .list 61 kBlock)]⟩, fun x => tapearchiveref10_Copied_l0 d k x.1 x.2.1 x.2.2⟩ :=
  loopN_ok (outs := [.o 61 kBlock false]) ⟨[(0, .p (.slice kBlock)), (3, .slw 2000001 false), (4, .p (.int .i64))], [(2000001, .list 61 kBlock)]⟩ ⟨[(3, .slw 2000001 false)], [(2000001, .list 61 kBlock)]⟩ (fun k x => tapearchiveref10_Copied_l0 d k x.1 x.2.1 x.2.2) (fun _ => tapearchiveref10_Copied_e d) (fun _ => ⟨tau_ok, hC, tapearchiveref10_Copied_G d⟩) mixed (fun _ => loops_of (l := []) (by kernel_rfl) (all_mem trivial)) (fun _ => rfl) (fun k x => by kernel_rfl)
theorem tapearchiveref10_Copied_ok (d : Nat) : SpecOK Try.prog 89 ⟨[.v (.slice kBlock)], [.o 61 kBlock false], fun x => tapearchiveref10_Copied d x⟩ :=
  fn_ok (e := tapearchiveref10_Copied_e d) (c := bodyOf Try.f89) Try.func89 (by kernel_rfl) (by decide +kernel) mixed tau_ok (tapearchiveref10_Copied_G d) rfl (by decide) (by decide) (by kernel_rfl) rfl (by decide) (fun C hC => loops_of (l := [(0, loopAt (bodyOf Try.f89) 0)]) (by kernel_rfl) (all_mem ⟨⟨tab_none rfl, tab_one rfl (tapearchiveref10_Copied_l0_ok d C hC d), tab_none rfl, tab_none rfl⟩, trivial⟩)) (fun x => by kernel_rfl)
def tapearchiveref10_Write_e (d : Nat) : Env [.v kCartridge, .v (.int .i64)] where
  τ := tyTab types
  n := 82
  Γ := tab [(71, ⟨[.v kCartridge], [.v .bool], fun x => tapearchiveref10_Valid d x⟩), (78, ⟨[.v kGeometry], [.v (.int .i64)], fun x => tapearchiveref09_Capacity d x⟩), (86, ⟨[.v kBlock], [.v .bool], fun x => tapearchiveref10_block d x⟩), (89, ⟨[.v (.slice kBlock)], [.o 61 kBlock false], fun x => tapearchiveref10_Copied d x⟩)]
  res := [.cell 6 28, .tmp 7]
  loopN := tab []
  loopR := tab [(0, ⟨⟨[(1, .p (.int .i64)), (2, .p (.slice kBlock)), (3, .ad 3 0), (6, .ad 6 0), (8, .p (.int .i64))], [(3, .agg 28 kCartridge), (6, .agg 28 kCartridge)]⟩, ⟨[(1, .p (.int .i64)), (2, .p (.slice kBlock)), (3, .ad 3 0), (6, .ad 6 0)], [(3, .agg 28 kCartridge), (6, .agg 28 kCartridge)]⟩, fun x => tapearchiveref10_Write_l0 d d x.1 x.2.1 x.2.2.1 x.2.2.2.1 x.2.2.2.2⟩)]
  join := tab [(12, ⟨[(1, .p (.int .i64)), (2, .p (.slice kBlock)), (3, .ad 3 0), (6, .ad 6 0)], [(3, .agg 28 kCartridge), (6, .agg 28 kCartridge)]⟩), (14, ⟨[(1, .p (.int .i64)), (2, .p (.slice kBlock)), (3, .ad 3 0), (6, .ad 6 0)], [(3, .agg 28 kCartridge), (6, .agg 28 kCartridge)]⟩), (20, ⟨[(3, .ad 3 0), (6, .ad 6 0), (9, .slw 1001088 false)], [(3, .agg 28 kCartridge), (6, .agg 28 kCartridge), (1001088, .list 61 kBlock)]⟩)]
  loopX := tab []
  unroll := tab []
theorem tapearchiveref10_Write_G (d : Nat) : ∀ f sp, (tapearchiveref10_Write_e d).Γ f = some sp → SpecOK Try.prog f sp := tab_all (all_mem ⟨tapearchiveref10_Valid_ok d, tapearchiveref09_Capacity_ok d, tapearchiveref10_block_ok d, tapearchiveref10_Copied_ok d, trivial⟩)
theorem tapearchiveref10_Write_l0_ok (d : Nat) (C : Cx) (hC : (tapearchiveref10_Write_e d).n = C.n) : ∀ k, LoopR Try.prog C (tapearchiveref10_Write_e d) (loopAt (bodyOf Try.f75) 0) 0 ⟨⟨[(1, .p (.int .i64)), (2, .p (.slice kBlock)), (3, .ad 3 0), (6, .ad 6 0), (8, .p (.int .i64))], [(3, .agg 28 kCartridge), (6, .agg 28 kCartridge)]⟩, ⟨[(1, .p (.int .i64)), (2, .p (.slice kBlock)), (3, .ad 3 0), (6, .ad 6 0)], [(3, .agg 28 kCartridge), (6, .agg 28 kCartridge)]⟩, fun x => tapearchiveref10_Write_l0 d k x.1 x.2.1 x.2.2.1 x.2.2.2.1 x.2.2.2.2⟩ :=
  loopR_ok (outs := [.v kCartridge, .v (.int .i64)]) ⟨[(1, .p (.int .i64)), (2, .p (.slice kBlock)), (3, .ad 3 0), (6, .ad 6 0), (8, .p (.int .i64))], [(3, .agg 28 kCartridge), (6, .agg 28 kCartridge)]⟩ ⟨[(1, .p (.int .i64)), (2, .p (.slice kBlock)), (3, .ad 3 0), (6, .ad 6 0)], [(3, .agg 28 kCartridge), (6, .agg 28 kCartridge)]⟩ (fun k x => tapearchiveref10_Write_l0 d k x.1 x.2.1 x.2.2.1 x.2.2.2.1 x.2.2.2.2) (fun _ => tapearchiveref10_Write_e d) (fun _ => ⟨tau_ok, hC, tapearchiveref10_Write_G d⟩) mixed (fun _ => loops_of (l := []) (by kernel_rfl) (all_mem trivial)) (fun _ => rfl) (fun _ => rfl) (fun _ => rfl) (fun k x => by kernel_rfl)
theorem tapearchiveref10_Write_ok (d : Nat) : SpecOK Try.prog 75 ⟨[.v kCartridge, .v (.int .i64), .v (.slice kBlock)], [.v kCartridge, .v (.int .i64)], fun x => tapearchiveref10_Write d x.1 x.2.1 x.2.2⟩ :=
  fn_ok (e := tapearchiveref10_Write_e d) (c := bodyOf Try.f75) Try.func75 (by kernel_rfl) (by decide +kernel) mixed tau_ok (tapearchiveref10_Write_G d) rfl (by decide) (by decide) (by kernel_rfl) rfl (by decide) (fun C hC => loops_of (l := [(0, loopAt (bodyOf Try.f75) 0)]) (by kernel_rfl) (all_mem ⟨⟨tab_none rfl, tab_none rfl, tab_one rfl (tapearchiveref10_Write_l0_ok d C hC d), tab_none rfl⟩, trivial⟩)) (fun x => by kernel_rfl)
def tapearchiveref11_Write_e (d : Nat) : Env [.v kDrive, .v kCartridge, .v (.int .i64), .v (.int .i64)] where
  τ := tyTab types
  n := 73
  Γ := tab [(22, ⟨[.v kDriveModel, .v kCartridge], [.v .bool], fun x => tapearchiveref11_Worn d x.1 x.2⟩), (49, ⟨[.v kGeometry, .v kSpan], [.v (.int .i64)], fun x => tapearchiveref09_Read d x.1 x.2⟩), (73, ⟨[.v kDriveModel, .v kDrive, .v kCartridge], [.v (.int .i64)], fun x => tapearchiveref11_first d x.1 x.2.1 x.2.2⟩), (74, ⟨[.v kDrive, .v kCartridge, .v (.int .i64)], [.v kDrive, .v kCartridge], fun x => tapearchiveref11_move d x.1 x.2.1 x.2.2⟩), (75, ⟨[.v kCartridge, .v (.int .i64), .v (.slice kBlock)], [.v kCartridge, .v (.int .i64)], fun x => tapearchiveref10_Write d x.1 x.2.1 x.2.2⟩)]
  res := [.cell 8 36, .cell 9 28, .tmp 10, .tmp 11]
  loopN := tab []
  loopR := tab []
  join := tab [(4, ⟨[(3, .p (.slice kBlock)), (5, .ad 5 0), (6, .ad 6 0), (8, .ad 8 0), (9, .ad 9 0), (12, .p (.int .i64))], [(5, .agg 36 kDrive), (6, .agg 28 kCartridge), (8, .agg 36 kDrive), (9, .agg 28 kCartridge)]⟩), (6, ⟨[(3, .p (.slice kBlock)), (5, .ad 5 0), (6, .ad 6 0), (8, .ad 8 0), (9, .ad 9 0), (12, .p (.int .i64))], [(5, .agg 36 kDrive), (6, .agg 28 kCartridge), (8, .agg 36 kDrive), (9, .agg 28 kCartridge)]⟩)]
  loopX := tab []
  unroll := tab []
theorem tapearchiveref11_Write_G (d : Nat) : ∀ f sp, (tapearchiveref11_Write_e d).Γ f = some sp → SpecOK Try.prog f sp := tab_all (all_mem ⟨tapearchiveref11_Worn_ok d, tapearchiveref09_Read_ok d, tapearchiveref11_first_ok d, tapearchiveref11_move_ok d, tapearchiveref10_Write_ok d, trivial⟩)
theorem tapearchiveref11_Write_ok (d : Nat) : SpecOK Try.prog 46 ⟨[.v kDriveModel, .v kDrive, .v kCartridge, .v (.slice kBlock)], [.v kDrive, .v kCartridge, .v (.int .i64), .v (.int .i64)], fun x => tapearchiveref11_Write d x.1 x.2.1 x.2.2.1 x.2.2.2⟩ :=
  fn_ok (e := tapearchiveref11_Write_e d) (c := bodyOf Try.f46) Try.func46 (by kernel_rfl) (by decide +kernel) mixed tau_ok (tapearchiveref11_Write_G d) rfl (by decide) (by decide) (by kernel_rfl) rfl (by decide) (fun C hC => loops_of (l := []) (by kernel_rfl) (all_mem trivial)) (fun x => by kernel_rfl)
def tapearchiveref11_Clean_e (d : Nat) : Env [.v kDrive, .v (.int .i64), .v (.int .i64)] where
  τ := tyTab types
  n := 31
  Γ := tab [(69, ⟨[.v kDriveModel], [.v .bool], fun x => tapearchiveref11_model d x⟩), (70, ⟨[.v kDrive], [.v .bool], fun x => tapearchiveref11_drive d x⟩)]
  res := [.cell 4 36, .tmp 5, .tmp 6]
  loopN := tab []
  loopR := tab []
  join := tab [(7, ⟨[(2, .ad 2 0), (3, .ad 3 0), (4, .ad 4 0)], [(2, .agg 23 kDriveModel), (3, .agg 36 kDrive), (4, .agg 36 kDrive)]⟩)]
  loopX := tab []
  unroll := tab []
theorem tapearchiveref11_Clean_G (d : Nat) : ∀ f sp, (tapearchiveref11_Clean_e d).Γ f = some sp → SpecOK Try.prog f sp := tab_all (all_mem ⟨tapearchiveref11_model_ok d, tapearchiveref11_drive_ok d, trivial⟩)
theorem tapearchiveref11_Clean_ok (d : Nat) : SpecOK Try.prog 47 ⟨[.v kDriveModel, .v kDrive], [.v kDrive, .v (.int .i64), .v (.int .i64)], fun x => tapearchiveref11_Clean d x.1 x.2⟩ :=
  fn_ok (e := tapearchiveref11_Clean_e d) (c := bodyOf Try.f47) Try.func47 (by kernel_rfl) (by decide +kernel) mixed tau_ok (tapearchiveref11_Clean_G d) rfl (by decide) (by decide) (by kernel_rfl) rfl (by decide) (fun C hC => loops_of (l := []) (by kernel_rfl) (all_mem trivial)) (fun x => by kernel_rfl)
def tapearchivelaw11_document_e (d : Nat) : Env [.v ktapearchivelaw11_Done] where
  τ := tyTab types
  n := 109
  Γ := tab [(42, ⟨[.v kDriveModel, .v kDrive, .v kCartridge], [.v kDrive, .v kCartridge, .v (.int .i64), .v (.int .i64)], fun x => tapearchiveref11_Load d x.1 x.2.1 x.2.2⟩), (43, ⟨[.v kDriveModel, .v kDrive, .v kCartridge], [.v kDrive, .v kCartridge, .v (.int .i64), .v (.int .i64)], fun x => tapearchiveref11_Unload d x.1 x.2.1 x.2.2⟩), (44, ⟨[.v kDriveModel, .v kDrive, .v kCartridge, .v (.int .i64)], [.v kDrive, .v kCartridge, .v (.int .i64), .v (.int .i64)], fun x => tapearchiveref11_Seek d x.1 x.2.1 x.2.2.1 x.2.2.2⟩), (45, ⟨[.v kDriveModel, .v kDrive, .v kCartridge, .v (.int .i64)], [.v kDrive, .v kCartridge, .v (.slice kBlock), .v (.int .i64), .v (.int .i64)], fun x => tapearchiveref11_Read d x.1 x.2.1 x.2.2.1 x.2.2.2⟩), (46, ⟨[.v kDriveModel, .v kDrive, .v kCartridge, .v (.slice kBlock)], [.v kDrive, .v kCartridge, .v (.int .i64), .v (.int .i64)], fun x => tapearchiveref11_Write d x.1 x.2.1 x.2.2.1 x.2.2.2⟩), (47, ⟨[.v kDriveModel, .v kDrive], [.v kDrive, .v (.int .i64), .v (.int .i64)], fun x => tapearchiveref11_Clean d x.1 x.2⟩)]
  res := [.cell 8 48]
  loopN := tab []
  loopR := tab []
  join := tab []
  loopX := tab []
  unroll := tab []
theorem tapearchivelaw11_document_G (d : Nat) : ∀ f sp, (tapearchivelaw11_document_e d).Γ f = some sp → SpecOK Try.prog f sp := tab_all (all_mem ⟨tapearchiveref11_Load_ok d, tapearchiveref11_Unload_ok d, tapearchiveref11_Seek_ok d, tapearchiveref11_Read_ok d, tapearchiveref11_Write_ok d, tapearchiveref11_Clean_ok d, trivial⟩)
theorem tapearchivelaw11_document_ok (d : Nat) : SpecOK Try.prog 17 ⟨[.v kDriveModel, .v kDrive, .v kCartridge, .v ktapearchivelaw11_Step], [.v ktapearchivelaw11_Done], fun x => tapearchivelaw11_document d x.1 x.2.1 x.2.2.1 x.2.2.2⟩ :=
  fn_ok (e := tapearchivelaw11_document_e d) (c := bodyOf Try.f17) Try.func17 (by kernel_rfl) (by decide +kernel) mixed tau_ok (tapearchivelaw11_document_G d) rfl (by decide) (by decide) (by kernel_rfl) rfl (by decide) (fun C hC => loops_of (l := []) (by kernel_rfl) (all_mem trivial)) (fun x => by kernel_rfl)
def tapearchiveref11_Same_e (d : Nat) : Env [.v .bool] where
  τ := tyTab types
  n := 59
  Γ := tab [(14, ⟨[.v (.slice kBlock), .v (.slice kBlock)], [.v .bool], fun x => tapearchiveref11_SameBlocks d x.1 x.2⟩)]
  res := [.tmp 4]
  loopN := tab []
  loopR := tab []
  join := tab []
  loopX := tab []
  unroll := tab []
theorem tapearchiveref11_Same_G (d : Nat) : ∀ f sp, (tapearchiveref11_Same_e d).Γ f = some sp → SpecOK Try.prog f sp := tab_all (all_mem ⟨tapearchiveref11_SameBlocks_ok d, trivial⟩)
theorem tapearchiveref11_Same_ok (d : Nat) : SpecOK Try.prog 18 ⟨[.v kCartridge, .v kCartridge], [.v .bool], fun x => tapearchiveref11_Same d x.1 x.2⟩ :=
  fn_ok (e := tapearchiveref11_Same_e d) (c := bodyOf Try.f18) Try.func18 (by kernel_rfl) (by decide +kernel) mixed tau_ok (tapearchiveref11_Same_G d) rfl (by decide) (by decide) (by kernel_rfl) rfl (by decide) (fun C hC => loops_of (l := []) (by kernel_rfl) (all_mem trivial)) (fun x => by kernel_rfl)
def tapearchivelaw11_DriveSteps_e (d : Nat) : Env [.v .bool] where
  τ := tyTab types
  n := 82
  Γ := tab [(8, ⟨[], [.v .bool], fun x => tapearchivelaw11_lives d⟩), (9, ⟨[.v (.slice kCartridge), .v (.slice ktapearchivelaw11_Step), .v (.int .i64)], [.v .bool], fun x => tapearchivelaw11_few d x.1 x.2.1 x.2.2⟩), (11, ⟨[.v kCartridge], [.v kCartridge], fun x => tapearchiveref11_Copied d x⟩), (14, ⟨[.v (.slice kBlock), .v (.slice kBlock)], [.v .bool], fun x => tapearchiveref11_SameBlocks d x.1 x.2⟩), (16, ⟨[.v kDriveModel, .v kDrive, .v kCartridge, .v ktapearchivelaw11_Step], [.v ktapearchivelaw11_Done], fun x => tapearchivelaw11_program d x.1 x.2.1 x.2.2.1 x.2.2.2⟩), (17, ⟨[.v kDriveModel, .v kDrive, .v kCartridge, .v ktapearchivelaw11_Step], [.v ktapearchivelaw11_Done], fun x => tapearchivelaw11_document d x.1 x.2.1 x.2.2.1 x.2.2.2⟩), (18, ⟨[.v kCartridge, .v kCartridge], [.v .bool], fun x => tapearchiveref11_Same d x.1 x.2⟩), (19, ⟨[.v kDriveModel, .v kDrive], [.v .bool], fun x => drive_Due d x.1 x.2⟩), (20, ⟨[.v kDriveModel, .v kDrive], [.v .bool], fun x => tapearchiveref11_Due d x.1 x.2⟩), (21, ⟨[.v kDriveModel, .v kCartridge], [.v .bool], fun x => drive_Worn d x.1 x.2⟩), (22, ⟨[.v kDriveModel, .v kCartridge], [.v .bool], fun x => tapearchiveref11_Worn d x.1 x.2⟩)]
  res := [.tmp 8]
  loopN := tab []
  loopR := tab []
  join := tab []
  loopX := tab []
  unroll := tab []
theorem tapearchivelaw11_DriveSteps_G (d : Nat) : ∀ f sp, (tapearchivelaw11_DriveSteps_e d).Γ f = some sp → SpecOK Try.prog f sp := tab_all (all_mem ⟨tapearchivelaw11_lives_ok d, tapearchivelaw11_few_ok d, tapearchiveref11_Copied_ok d, tapearchiveref11_SameBlocks_ok d, tapearchivelaw11_program_ok d, tapearchivelaw11_document_ok d, tapearchiveref11_Same_ok d, drive_Due_ok d, tapearchiveref11_Due_ok d, drive_Worn_ok d, tapearchiveref11_Worn_ok d, trivial⟩)
theorem tapearchivelaw11_DriveSteps_ok (d : Nat) : SpecOK Try.prog 4 ⟨[.v kDriveModel, .v kDrive, .v kCartridge, .v ktapearchivelaw11_Step], [.v .bool], fun x => tapearchivelaw11_DriveSteps d x.1 x.2.1 x.2.2.1 x.2.2.2⟩ :=
  fn_ok (e := tapearchivelaw11_DriveSteps_e d) (c := bodyOf Try.f4) Try.func4 (by kernel_rfl) (by decide +kernel) mixed tau_ok (tapearchivelaw11_DriveSteps_G d) rfl (by decide) (by decide) (by kernel_rfl) rfl (by decide) (fun C hC => loops_of (l := []) (by kernel_rfl) (all_mem trivial)) (fun x => by kernel_rfl)
def tapearchivelaw11_DriveRuns_e (d : Nat) : Env [.v .bool] where
  τ := tyTab types
  n := 129
  Γ := tab [(8, ⟨[], [.v .bool], fun x => tapearchivelaw11_lives d⟩), (9, ⟨[.v (.slice kCartridge), .v (.slice ktapearchivelaw11_Step), .v (.int .i64)], [.v .bool], fun x => tapearchivelaw11_few d x.1 x.2.1 x.2.2⟩), (11, ⟨[.v kCartridge], [.v kCartridge], fun x => tapearchiveref11_Copied d x⟩), (14, ⟨[.v (.slice kBlock), .v (.slice kBlock)], [.v .bool], fun x => tapearchiveref11_SameBlocks d x.1 x.2⟩), (16, ⟨[.v kDriveModel, .v kDrive, .v kCartridge, .v ktapearchivelaw11_Step], [.v ktapearchivelaw11_Done], fun x => tapearchivelaw11_program d x.1 x.2.1 x.2.2.1 x.2.2.2⟩), (17, ⟨[.v kDriveModel, .v kDrive, .v kCartridge, .v ktapearchivelaw11_Step], [.v ktapearchivelaw11_Done], fun x => tapearchivelaw11_document d x.1 x.2.1 x.2.2.1 x.2.2.2⟩), (18, ⟨[.v kCartridge, .v kCartridge], [.v .bool], fun x => tapearchiveref11_Same d x.1 x.2⟩)]
  res := [.tmp 6]
  loopN := tab [(0, ⟨⟨[(1, .p (.slice kCartridge)), (2, .p (.slice ktapearchivelaw11_Step)), (3, .ad 3 0), (7, .slw 20 false), (8, .p (.int .i64))], [(3, .agg 23 kDriveModel), (20, .list 28 kCartridge)]⟩, ⟨[(2, .p (.slice ktapearchivelaw11_Step)), (3, .ad 3 0), (7, .slw 20 false)], [(3, .agg 23 kDriveModel), (20, .list 28 kCartridge)]⟩, fun x => tapearchivelaw11_DriveRuns_l0 d d x.1 x.2.1 x.2.2.1 x.2.2.2.1 x.2.2.2.2⟩)]
  loopR := tab [(2, ⟨⟨[(2, .p (.slice ktapearchivelaw11_Step)), (3, .ad 3 0), (7, .slw 20 false), (9, .ad 9 0), (10, .p (.int .i64))], [(3, .agg 23 kDriveModel), (9, .agg 36 kDrive), (20, .list 28 kCartridge)]⟩, ⟨[], []⟩, fun x => tapearchivelaw11_DriveRuns_l2 d d x.1 x.2.1 x.2.2.1 x.2.2.2.1 x.2.2.2.2⟩)]
  join := tab [(17, ⟨[(2, .p (.slice ktapearchivelaw11_Step)), (3, .ad 3 0), (7, .slw 20 false), (9, .ad 9 0), (10, .p (.int .i64)), (11, .p (.int .i64))], [(3, .agg 23 kDriveModel), (9, .agg 36 kDrive), (20, .list 28 kCartridge)]⟩), (20, ⟨[(2, .p (.slice ktapearchivelaw11_Step)), (3, .ad 3 0), (7, .slw 20 false), (9, .ad 9 0), (10, .p (.int .i64)), (11, .p (.int .i64)), (12, .ad 12 0)], [(3, .agg 23 kDriveModel), (9, .agg 36 kDrive), (12, .agg 48 ktapearchivelaw11_Done), (20, .list 28 kCartridge)]⟩)]
  loopX := tab []
  unroll := tab []
theorem tapearchivelaw11_DriveRuns_G (d : Nat) : ∀ f sp, (tapearchivelaw11_DriveRuns_e d).Γ f = some sp → SpecOK Try.prog f sp := tab_all (all_mem ⟨tapearchivelaw11_lives_ok d, tapearchivelaw11_few_ok d, tapearchiveref11_Copied_ok d, tapearchiveref11_SameBlocks_ok d, tapearchivelaw11_program_ok d, tapearchivelaw11_document_ok d, tapearchiveref11_Same_ok d, trivial⟩)
theorem tapearchivelaw11_DriveRuns_l0_ok (d : Nat) (C : Cx) (hC : (tapearchivelaw11_DriveRuns_e d).n = C.n) : ∀ k, LoopN Try.prog C (loopAt (bodyOf Try.f5) 0) 0 ⟨⟨[(1, .p (.slice kCartridge)), (2, .p (.slice ktapearchivelaw11_Step)), (3, .ad 3 0), (7, .slw 20 false), (8, .p (.int .i64))], [(3, .agg 23 kDriveModel), (20, .list 28 kCartridge)]⟩, ⟨[(2, .p (.slice ktapearchivelaw11_Step)), (3, .ad 3 0), (7, .slw 20 false)], [(3, .agg 23 kDriveModel), (20, .list 28 kCartridge)]⟩, fun x => tapearchivelaw11_DriveRuns_l0 d k x.1 x.2.1 x.2.2.1 x.2.2.2.1 x.2.2.2.2⟩ :=
  loopN_ok (outs := [.v .bool]) ⟨[(1, .p (.slice kCartridge)), (2, .p (.slice ktapearchivelaw11_Step)), (3, .ad 3 0), (7, .slw 20 false), (8, .p (.int .i64))], [(3, .agg 23 kDriveModel), (20, .list 28 kCartridge)]⟩ ⟨[(2, .p (.slice ktapearchivelaw11_Step)), (3, .ad 3 0), (7, .slw 20 false)], [(3, .agg 23 kDriveModel), (20, .list 28 kCartridge)]⟩ (fun k x => tapearchivelaw11_DriveRuns_l0 d k x.1 x.2.1 x.2.2.1 x.2.2.2.1 x.2.2.2.2) (fun _ => tapearchivelaw11_DriveRuns_e d) (fun _ => ⟨tau_ok, hC, tapearchivelaw11_DriveRuns_G d⟩) mixed (fun _ => loops_of (l := []) (by kernel_rfl) (all_mem trivial)) (fun _ => rfl) (fun k x => by kernel_rfl)
theorem tapearchivelaw11_DriveRuns_l2_ok (d : Nat) (C : Cx) (hC : (tapearchivelaw11_DriveRuns_e d).n = C.n) : ∀ k, LoopR Try.prog C (tapearchivelaw11_DriveRuns_e d) (loopAt (bodyOf Try.f5) 1) 2 ⟨⟨[(2, .p (.slice ktapearchivelaw11_Step)), (3, .ad 3 0), (7, .slw 20 false), (9, .ad 9 0), (10, .p (.int .i64))], [(3, .agg 23 kDriveModel), (9, .agg 36 kDrive), (20, .list 28 kCartridge)]⟩, ⟨[], []⟩, fun x => tapearchivelaw11_DriveRuns_l2 d k x.1 x.2.1 x.2.2.1 x.2.2.2.1 x.2.2.2.2⟩ :=
  loopR_ok (outs := [.v .bool]) ⟨[(2, .p (.slice ktapearchivelaw11_Step)), (3, .ad 3 0), (7, .slw 20 false), (9, .ad 9 0), (10, .p (.int .i64))], [(3, .agg 23 kDriveModel), (9, .agg 36 kDrive), (20, .list 28 kCartridge)]⟩ ⟨[], []⟩ (fun k x => tapearchivelaw11_DriveRuns_l2 d k x.1 x.2.1 x.2.2.1 x.2.2.2.1 x.2.2.2.2) (fun _ => tapearchivelaw11_DriveRuns_e d) (fun _ => ⟨tau_ok, hC, tapearchivelaw11_DriveRuns_G d⟩) mixed (fun _ => loops_of (l := []) (by kernel_rfl) (all_mem trivial)) (fun _ => rfl) (fun _ => rfl) (fun _ => rfl) (fun k x => by kernel_rfl)
theorem tapearchivelaw11_DriveRuns_ok (d : Nat) : SpecOK Try.prog 5 ⟨[.v kDriveModel, .v (.slice kCartridge), .v (.slice ktapearchivelaw11_Step)], [.v .bool], fun x => tapearchivelaw11_DriveRuns d x.1 x.2.1 x.2.2⟩ :=
  fn_ok (e := tapearchivelaw11_DriveRuns_e d) (c := bodyOf Try.f5) Try.func5 (by kernel_rfl) (by decide +kernel) mixed tau_ok (tapearchivelaw11_DriveRuns_G d) rfl (by decide) (by decide) (by kernel_rfl) rfl (by decide) (fun C hC => loops_of (l := [(0, loopAt (bodyOf Try.f5) 0), (2, loopAt (bodyOf Try.f5) 1)]) (by kernel_rfl) (all_mem ⟨⟨tab_none rfl, tab_one rfl (tapearchivelaw11_DriveRuns_l0_ok d C hC d), tab_none rfl, tab_none rfl⟩, ⟨tab_none rfl, tab_none rfl, tab_one rfl (tapearchivelaw11_DriveRuns_l2_ok d C hC d), tab_none rfl⟩, trivial⟩)) (fun x => by kernel_rfl)
def tapearchivelaw11_cost_e (d : Nat) : Env [.v (.int .i64)] where
  τ := tyTab types
  n := 43
  Γ := tab [(48, ⟨[.v kGeometry, .v (.int .i64), .v (.int .i64)], [.v (.int .i64)], fun x => tapearchiveref09_Locate d x.1 x.2.1 x.2.2⟩), (49, ⟨[.v kGeometry, .v kSpan], [.v (.int .i64)], fun x => tapearchiveref09_Read d x.1 x.2⟩)]
  res := [.tmp 10]
  loopN := tab []
  loopR := tab []
  join := tab []
  loopX := tab []
  unroll := tab []
theorem tapearchivelaw11_cost_G (d : Nat) : ∀ f sp, (tapearchivelaw11_cost_e d).Γ f = some sp → SpecOK Try.prog f sp := tab_all (all_mem ⟨tapearchiveref09_Locate_ok d, tapearchiveref09_Read_ok d, trivial⟩)
theorem tapearchivelaw11_cost_ok (d : Nat) : SpecOK Try.prog 23 ⟨[.v kDriveModel, .v kGeometry, .v (.int .i64), .v (.int .i64), .v ktapearchivelaw11_Step], [.v (.int .i64)], fun x => tapearchivelaw11_cost d x.1 x.2.1 x.2.2.1 x.2.2.2.1 x.2.2.2.2⟩ :=
  fn_ok (e := tapearchivelaw11_cost_e d) (c := bodyOf Try.f23) Try.func23 (by kernel_rfl) (by decide +kernel) mixed tau_ok (tapearchivelaw11_cost_G d) rfl (by decide) (by decide) (by kernel_rfl) rfl (by decide) (fun C hC => loops_of (l := []) (by kernel_rfl) (all_mem trivial)) (fun x => by kernel_rfl)
def tapearchivelaw11_DriveCosts_e (d : Nat) : Env [.v .bool] where
  τ := tyTab types
  n := 173
  Γ := tab [(8, ⟨[], [.v .bool], fun x => tapearchivelaw11_lives d⟩), (9, ⟨[.v (.slice kCartridge), .v (.slice ktapearchivelaw11_Step), .v (.int .i64)], [.v .bool], fun x => tapearchivelaw11_few d x.1 x.2.1 x.2.2⟩), (11, ⟨[.v kCartridge], [.v kCartridge], fun x => tapearchiveref11_Copied d x⟩), (14, ⟨[.v (.slice kBlock), .v (.slice kBlock)], [.v .bool], fun x => tapearchiveref11_SameBlocks d x.1 x.2⟩), (16, ⟨[.v kDriveModel, .v kDrive, .v kCartridge, .v ktapearchivelaw11_Step], [.v ktapearchivelaw11_Done], fun x => tapearchivelaw11_program d x.1 x.2.1 x.2.2.1 x.2.2.2⟩), (23, ⟨[.v kDriveModel, .v kGeometry, .v (.int .i64), .v (.int .i64), .v ktapearchivelaw11_Step], [.v (.int .i64)], fun x => tapearchivelaw11_cost d x.1 x.2.1 x.2.2.1 x.2.2.2.1 x.2.2.2.2⟩)]
  res := [.tmp 6]
  loopN := tab [(4, ⟨⟨[(7, .slw 22 false), (8, .p (.int .i64)), (10, .ad 10 0), (14, .p (.int .i64)), (15, .p (.int .i64))], [(10, .agg 36 kDrive), (22, .list 28 kCartridge)]⟩, ⟨[(8, .p (.int .i64)), (10, .ad 10 0), (14, .p (.int .i64))], [(10, .agg 36 kDrive)]⟩, fun x => tapearchivelaw11_DriveCosts_l4 d d x.1 x.2.1 x.2.2.1 x.2.2.2.1 x.2.2.2.2⟩)]
  loopR := tab [(0, ⟨⟨[(1, .p (.slice kCartridge)), (2, .p (.slice ktapearchivelaw11_Step)), (3, .ad 3 0), (7, .slw 22 false), (8, .p (.int .i64)), (9, .p (.int .i64))], [(3, .agg 23 kDriveModel), (22, .list 28 kCartridge)]⟩, ⟨[(2, .p (.slice ktapearchivelaw11_Step)), (3, .ad 3 0), (7, .slw 22 false), (8, .p (.int .i64))], [(3, .agg 23 kDriveModel), (22, .list 28 kCartridge)]⟩, fun x => tapearchivelaw11_DriveCosts_l0 d d x.1 x.2.1 x.2.2.1 x.2.2.2.1 x.2.2.2.2.1 x.2.2.2.2.2⟩), (2, ⟨⟨[(2, .p (.slice ktapearchivelaw11_Step)), (3, .ad 3 0), (7, .slw 22 false), (8, .p (.int .i64)), (10, .ad 10 0), (11, .p (.int .i64))], [(3, .agg 23 kDriveModel), (10, .agg 36 kDrive), (22, .list 28 kCartridge)]⟩, ⟨[(7, .slw 22 false), (8, .p (.int .i64)), (10, .ad 10 0)], [(10, .agg 36 kDrive), (22, .list 28 kCartridge)]⟩, fun x => tapearchivelaw11_DriveCosts_l2 d d x.1 x.2.1 x.2.2.1 x.2.2.2.1 x.2.2.2.2.1 x.2.2.2.2.2⟩)]
  join := tab [(12, ⟨[(1, .p (.slice kCartridge)), (2, .p (.slice ktapearchivelaw11_Step)), (3, .ad 3 0), (7, .slw 22 false), (8, .p (.int .i64)), (9, .p (.int .i64))], [(3, .agg 23 kDriveModel), (22, .list 28 kCartridge)]⟩), (21, ⟨[(2, .p (.slice ktapearchivelaw11_Step)), (3, .ad 3 0), (7, .slw 22 false), (8, .p (.int .i64)), (10, .ad 10 0), (11, .p (.int .i64)), (12, .ad 12 0)], [(3, .agg 23 kDriveModel), (10, .agg 36 kDrive), (12, .agg 33 ktapearchivelaw11_Step), (22, .list 28 kCartridge)]⟩), (25, ⟨[(2, .p (.slice ktapearchivelaw11_Step)), (3, .ad 3 0), (7, .slw 22 false), (8, .p (.int .i64)), (10, .ad 10 0), (11, .p (.int .i64)), (12, .ad 12 0), (13, .ad 13 0)], [(3, .agg 23 kDriveModel), (10, .agg 36 kDrive), (12, .agg 33 ktapearchivelaw11_Step), (13, .agg 48 ktapearchivelaw11_Done), (22, .list 28 kCartridge)]⟩), (27, ⟨[(2, .p (.slice ktapearchivelaw11_Step)), (3, .ad 3 0), (7, .slw 22 false), (8, .p (.int .i64)), (10, .ad 10 0), (11, .p (.int .i64)), (12, .ad 12 0), (13, .ad 13 0)], [(3, .agg 23 kDriveModel), (10, .agg 36 kDrive), (12, .agg 33 ktapearchivelaw11_Step), (13, .agg 48 ktapearchivelaw11_Done), (22, .list 28 kCartridge)]⟩)]
  loopX := tab []
  unroll := tab []
theorem tapearchivelaw11_DriveCosts_G (d : Nat) : ∀ f sp, (tapearchivelaw11_DriveCosts_e d).Γ f = some sp → SpecOK Try.prog f sp := tab_all (all_mem ⟨tapearchivelaw11_lives_ok d, tapearchivelaw11_few_ok d, tapearchiveref11_Copied_ok d, tapearchiveref11_SameBlocks_ok d, tapearchivelaw11_program_ok d, tapearchivelaw11_cost_ok d, trivial⟩)
theorem tapearchivelaw11_DriveCosts_l0_ok (d : Nat) (C : Cx) (hC : (tapearchivelaw11_DriveCosts_e d).n = C.n) : ∀ k, LoopR Try.prog C (tapearchivelaw11_DriveCosts_e d) (loopAt (bodyOf Try.f6) 0) 0 ⟨⟨[(1, .p (.slice kCartridge)), (2, .p (.slice ktapearchivelaw11_Step)), (3, .ad 3 0), (7, .slw 22 false), (8, .p (.int .i64)), (9, .p (.int .i64))], [(3, .agg 23 kDriveModel), (22, .list 28 kCartridge)]⟩, ⟨[(2, .p (.slice ktapearchivelaw11_Step)), (3, .ad 3 0), (7, .slw 22 false), (8, .p (.int .i64))], [(3, .agg 23 kDriveModel), (22, .list 28 kCartridge)]⟩, fun x => tapearchivelaw11_DriveCosts_l0 d k x.1 x.2.1 x.2.2.1 x.2.2.2.1 x.2.2.2.2.1 x.2.2.2.2.2⟩ :=
  loopR_ok (outs := [.v .bool]) ⟨[(1, .p (.slice kCartridge)), (2, .p (.slice ktapearchivelaw11_Step)), (3, .ad 3 0), (7, .slw 22 false), (8, .p (.int .i64)), (9, .p (.int .i64))], [(3, .agg 23 kDriveModel), (22, .list 28 kCartridge)]⟩ ⟨[(2, .p (.slice ktapearchivelaw11_Step)), (3, .ad 3 0), (7, .slw 22 false), (8, .p (.int .i64))], [(3, .agg 23 kDriveModel), (22, .list 28 kCartridge)]⟩ (fun k x => tapearchivelaw11_DriveCosts_l0 d k x.1 x.2.1 x.2.2.1 x.2.2.2.1 x.2.2.2.2.1 x.2.2.2.2.2) (fun _ => tapearchivelaw11_DriveCosts_e d) (fun _ => ⟨tau_ok, hC, tapearchivelaw11_DriveCosts_G d⟩) mixed (fun _ => loops_of (l := []) (by kernel_rfl) (all_mem trivial)) (fun _ => rfl) (fun _ => rfl) (fun _ => rfl) (fun k x => by kernel_rfl)
theorem tapearchivelaw11_DriveCosts_l2_ok (d : Nat) (C : Cx) (hC : (tapearchivelaw11_DriveCosts_e d).n = C.n) : ∀ k, LoopR Try.prog C (tapearchivelaw11_DriveCosts_e d) (loopAt (bodyOf Try.f6) 1) 2 ⟨⟨[(2, .p (.slice ktapearchivelaw11_Step)), (3, .ad 3 0), (7, .slw 22 false), (8, .p (.int .i64)), (10, .ad 10 0), (11, .p (.int .i64))], [(3, .agg 23 kDriveModel), (10, .agg 36 kDrive), (22, .list 28 kCartridge)]⟩, ⟨[(7, .slw 22 false), (8, .p (.int .i64)), (10, .ad 10 0)], [(10, .agg 36 kDrive), (22, .list 28 kCartridge)]⟩, fun x => tapearchivelaw11_DriveCosts_l2 d k x.1 x.2.1 x.2.2.1 x.2.2.2.1 x.2.2.2.2.1 x.2.2.2.2.2⟩ :=
  loopR_ok (outs := [.v .bool]) ⟨[(2, .p (.slice ktapearchivelaw11_Step)), (3, .ad 3 0), (7, .slw 22 false), (8, .p (.int .i64)), (10, .ad 10 0), (11, .p (.int .i64))], [(3, .agg 23 kDriveModel), (10, .agg 36 kDrive), (22, .list 28 kCartridge)]⟩ ⟨[(7, .slw 22 false), (8, .p (.int .i64)), (10, .ad 10 0)], [(10, .agg 36 kDrive), (22, .list 28 kCartridge)]⟩ (fun k x => tapearchivelaw11_DriveCosts_l2 d k x.1 x.2.1 x.2.2.1 x.2.2.2.1 x.2.2.2.2.1 x.2.2.2.2.2) (fun _ => tapearchivelaw11_DriveCosts_e d) (fun _ => ⟨tau_ok, hC, tapearchivelaw11_DriveCosts_G d⟩) mixed (fun _ => loops_of (l := []) (by kernel_rfl) (all_mem trivial)) (fun _ => rfl) (fun _ => rfl) (fun _ => rfl) (fun k x => by kernel_rfl)
theorem tapearchivelaw11_DriveCosts_l4_ok (d : Nat) (C : Cx) (hC : (tapearchivelaw11_DriveCosts_e d).n = C.n) : ∀ k, LoopN Try.prog C (loopAt (bodyOf Try.f6) 2) 4 ⟨⟨[(7, .slw 22 false), (8, .p (.int .i64)), (10, .ad 10 0), (14, .p (.int .i64)), (15, .p (.int .i64))], [(10, .agg 36 kDrive), (22, .list 28 kCartridge)]⟩, ⟨[(8, .p (.int .i64)), (10, .ad 10 0), (14, .p (.int .i64))], [(10, .agg 36 kDrive)]⟩, fun x => tapearchivelaw11_DriveCosts_l4 d k x.1 x.2.1 x.2.2.1 x.2.2.2.1 x.2.2.2.2⟩ :=
  loopN_ok (outs := [.v .bool]) ⟨[(7, .slw 22 false), (8, .p (.int .i64)), (10, .ad 10 0), (14, .p (.int .i64)), (15, .p (.int .i64))], [(10, .agg 36 kDrive), (22, .list 28 kCartridge)]⟩ ⟨[(8, .p (.int .i64)), (10, .ad 10 0), (14, .p (.int .i64))], [(10, .agg 36 kDrive)]⟩ (fun k x => tapearchivelaw11_DriveCosts_l4 d k x.1 x.2.1 x.2.2.1 x.2.2.2.1 x.2.2.2.2) (fun _ => tapearchivelaw11_DriveCosts_e d) (fun _ => ⟨tau_ok, hC, tapearchivelaw11_DriveCosts_G d⟩) mixed (fun _ => loops_of (l := []) (by kernel_rfl) (all_mem trivial)) (fun _ => rfl) (fun k x => by kernel_rfl)
theorem tapearchivelaw11_DriveCosts_ok (d : Nat) : SpecOK Try.prog 6 ⟨[.v kDriveModel, .v (.slice kCartridge), .v (.slice ktapearchivelaw11_Step)], [.v .bool], fun x => tapearchivelaw11_DriveCosts d x.1 x.2.1 x.2.2⟩ :=
  fn_ok (e := tapearchivelaw11_DriveCosts_e d) (c := bodyOf Try.f6) Try.func6 (by kernel_rfl) (by decide +kernel) mixed tau_ok (tapearchivelaw11_DriveCosts_G d) rfl (by decide) (by decide) (by kernel_rfl) rfl (by decide) (fun C hC => loops_of (l := [(0, loopAt (bodyOf Try.f6) 0), (2, loopAt (bodyOf Try.f6) 1), (4, loopAt (bodyOf Try.f6) 2)]) (by kernel_rfl) (all_mem ⟨⟨tab_none rfl, tab_none rfl, tab_one rfl (tapearchivelaw11_DriveCosts_l0_ok d C hC d), tab_none rfl⟩, ⟨tab_none rfl, tab_none rfl, tab_one rfl (tapearchivelaw11_DriveCosts_l2_ok d C hC d), tab_none rfl⟩, ⟨tab_none rfl, tab_one rfl (tapearchivelaw11_DriveCosts_l4_ok d C hC d), tab_none rfl, tab_none rfl⟩, trivial⟩)) (fun x => by kernel_rfl)
def tapearchivelaw11_DriveWears_e (d : Nat) : Env [.v .bool] where
  τ := tyTab types
  n := 93
  Γ := tab [(8, ⟨[], [.v .bool], fun x => tapearchivelaw11_lives d⟩), (9, ⟨[.v (.slice kCartridge), .v (.slice ktapearchivelaw11_Step), .v (.int .i64)], [.v .bool], fun x => tapearchivelaw11_few d x.1 x.2.1 x.2.2⟩), (10, ⟨[.v kDriveModel, .v kDrive, .v kCartridge], [.v kDrive, .v kCartridge, .v (.int .i64), .v (.int .i64)], fun x => drive_Load d x.1 x.2.1 x.2.2⟩), (11, ⟨[.v kCartridge], [.v kCartridge], fun x => tapearchiveref11_Copied d x⟩), (16, ⟨[.v kDriveModel, .v kDrive, .v kCartridge, .v ktapearchivelaw11_Step], [.v ktapearchivelaw11_Done], fun x => tapearchivelaw11_program d x.1 x.2.1 x.2.2.1 x.2.2.2⟩), (19, ⟨[.v kDriveModel, .v kDrive], [.v .bool], fun x => drive_Due d x.1 x.2⟩), (24, ⟨[.v kDriveModel, .v kDrive], [.v kDrive, .v (.int .i64), .v (.int .i64)], fun x => drive_Clean d x.1 x.2⟩)]
  res := [.tmp 8]
  loopN := tab []
  loopR := tab [(0, ⟨⟨[(3, .p (.slice ktapearchivelaw11_Step)), (4, .ad 4 0), (5, .ad 5 0), (6, .ad 6 0), (16, .p (.int .i64))], [(4, .agg 23 kDriveModel), (5, .agg 36 kDrive), (6, .agg 28 kCartridge)]⟩, ⟨[], []⟩, fun x => tapearchivelaw11_DriveWears_l0 d d x.1 x.2.1 x.2.2.1 x.2.2.2.1 x.2.2.2.2⟩)]
  join := tab [(8, ⟨[(3, .p (.slice ktapearchivelaw11_Step)), (4, .ad 4 0), (5, .ad 5 0), (6, .ad 6 0)], [(4, .agg 23 kDriveModel), (5, .agg 36 kDrive), (6, .agg 28 kCartridge)]⟩), (12, ⟨[(3, .p (.slice ktapearchivelaw11_Step)), (4, .ad 4 0), (5, .ad 5 0), (6, .ad 6 0)], [(4, .agg 23 kDriveModel), (5, .agg 36 kDrive), (6, .agg 28 kCartridge)]⟩)]
  loopX := tab []
  unroll := tab []
theorem tapearchivelaw11_DriveWears_G (d : Nat) : ∀ f sp, (tapearchivelaw11_DriveWears_e d).Γ f = some sp → SpecOK Try.prog f sp := tab_all (all_mem ⟨tapearchivelaw11_lives_ok d, tapearchivelaw11_few_ok d, drive_Load_ok d, tapearchiveref11_Copied_ok d, tapearchivelaw11_program_ok d, drive_Due_ok d, drive_Clean_ok d, trivial⟩)
theorem tapearchivelaw11_DriveWears_l0_ok (d : Nat) (C : Cx) (hC : (tapearchivelaw11_DriveWears_e d).n = C.n) : ∀ k, LoopR Try.prog C (tapearchivelaw11_DriveWears_e d) (loopAt (bodyOf Try.f7) 0) 0 ⟨⟨[(3, .p (.slice ktapearchivelaw11_Step)), (4, .ad 4 0), (5, .ad 5 0), (6, .ad 6 0), (16, .p (.int .i64))], [(4, .agg 23 kDriveModel), (5, .agg 36 kDrive), (6, .agg 28 kCartridge)]⟩, ⟨[], []⟩, fun x => tapearchivelaw11_DriveWears_l0 d k x.1 x.2.1 x.2.2.1 x.2.2.2.1 x.2.2.2.2⟩ :=
  loopR_ok (outs := [.v .bool]) ⟨[(3, .p (.slice ktapearchivelaw11_Step)), (4, .ad 4 0), (5, .ad 5 0), (6, .ad 6 0), (16, .p (.int .i64))], [(4, .agg 23 kDriveModel), (5, .agg 36 kDrive), (6, .agg 28 kCartridge)]⟩ ⟨[], []⟩ (fun k x => tapearchivelaw11_DriveWears_l0 d k x.1 x.2.1 x.2.2.1 x.2.2.2.1 x.2.2.2.2) (fun _ => tapearchivelaw11_DriveWears_e d) (fun _ => ⟨tau_ok, hC, tapearchivelaw11_DriveWears_G d⟩) mixed (fun _ => loops_of (l := []) (by kernel_rfl) (all_mem trivial)) (fun _ => rfl) (fun _ => rfl) (fun _ => rfl) (fun k x => by kernel_rfl)
theorem tapearchivelaw11_DriveWears_ok (d : Nat) : SpecOK Try.prog 7 ⟨[.v kDriveModel, .v kDrive, .v kCartridge, .v (.slice ktapearchivelaw11_Step)], [.v .bool], fun x => tapearchivelaw11_DriveWears d x.1 x.2.1 x.2.2.1 x.2.2.2⟩ :=
  fn_ok (e := tapearchivelaw11_DriveWears_e d) (c := bodyOf Try.f7) Try.func7 (by kernel_rfl) (by decide +kernel) mixed tau_ok (tapearchivelaw11_DriveWears_G d) rfl (by decide) (by decide) (by kernel_rfl) rfl (by decide) (fun C hC => loops_of (l := [(0, loopAt (bodyOf Try.f7) 0)]) (by kernel_rfl) (all_mem ⟨⟨tab_none rfl, tab_none rfl, tab_one rfl (tapearchivelaw11_DriveWears_l0_ok d C hC d), tab_none rfl⟩, trivial⟩)) (fun x => by kernel_rfl)
end Go.Proofs.Ytlkjklacanedoaa.Den.G11
