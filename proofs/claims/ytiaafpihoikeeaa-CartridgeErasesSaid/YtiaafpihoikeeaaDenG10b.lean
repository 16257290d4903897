/- What the Go code does: tables and theorems, written by emit.py. -/
import Derived.Test.YtiaafpihoikeeaaDenS25
import Derived.Test.YtiaafpihoikeeaaDenG10a
import Derived.Test.YtiaafpihoikeeaaProg
set_option linter.unusedVariables false
set_option maxRecDepth 100000
namespace Go.Proofs.Ytiaafpihoikeeaa.Den.G10
open Go.Proofs.Ytiaafpihoikeeaa.Den Go Go.Proofs
def types : List (Nat × Ty) := [(3, ⟨.int .i64, 8, (.int .i64)⟩), (4, ⟨.bool, 1, .bool⟩), (5, ⟨.int .u8, 1, (.int .u8)⟩), (9, ⟨.str, 16, .str⟩), (23, ⟨.struct [(0, 3), (1, 3), (2, 3), (3, 3), (4, 3), (5, 3)], 48, kGeometry⟩), (24, ⟨.slice 54, 24, (.slice kBlock)⟩), (26, ⟨.struct [(0, 9), (1, 23), (7, 4), (8, 4), (9, 24), (10, 3), (11, 3), (12, 3)], 120, kCartridge⟩), (29, ⟨.int .i64, 8, (.int .i64)⟩), (40, ⟨.struct [(0, 3), (1, 3)], 16, kSpan⟩), (47, ⟨.slice 49, 24, (.slice ktapearchivelaw10_Step)⟩), (49, ⟨.struct [(0, 4), (1, 3), (2, 24)], 40, ktapearchivelaw10_Step⟩), (52, ⟨.slice 5, 24, (.slice (.int .u8))⟩), (54, ⟨.struct [(0, 4), (1, 4), (2, 52)], 32, kBlock⟩), (69, ⟨.slice 3, 24, (.slice (.int .i64))⟩)]
theorem types_ok : ∀ p ∈ types, TyOK Try.prog (tyTab types) p.1 p.2 := by
  refine all_mem ?_
  exact ⟨⟨by kernel_rfl, ⟨by kernel_rfl, rfl⟩, by decide⟩, ⟨by kernel_rfl, ⟨by kernel_rfl, rfl⟩, by decide⟩, ⟨by kernel_rfl, ⟨by kernel_rfl, rfl⟩, by decide⟩, ⟨by kernel_rfl, ⟨by kernel_rfl, rfl⟩, by decide⟩, ⟨by kernel_rfl, ⟨by kernel_rfl, rfl, by kernel_rfl, by kernel_rfl, by kernel_rfl, by decide +kernel⟩, by decide⟩, ⟨by kernel_rfl, ⟨by kernel_rfl, _, rfl, rfl⟩, by decide⟩, ⟨by kernel_rfl, ⟨by kernel_rfl, rfl, by kernel_rfl, by kernel_rfl, by kernel_rfl, by decide +kernel⟩, by decide⟩, ⟨by kernel_rfl, ⟨by kernel_rfl, rfl⟩, by decide⟩, ⟨by kernel_rfl, ⟨by kernel_rfl, rfl, by kernel_rfl, by kernel_rfl, by kernel_rfl, by decide +kernel⟩, by decide⟩, ⟨by kernel_rfl, ⟨by kernel_rfl, _, rfl, rfl⟩, by decide⟩, ⟨by kernel_rfl, ⟨by kernel_rfl, rfl, by kernel_rfl, by kernel_rfl, by kernel_rfl, by decide +kernel⟩, by decide⟩, ⟨by kernel_rfl, ⟨by kernel_rfl, _, rfl, rfl⟩, by decide⟩, ⟨by kernel_rfl, ⟨by kernel_rfl, rfl, by kernel_rfl, by kernel_rfl, by kernel_rfl, by decide +kernel⟩, by decide⟩, ⟨by kernel_rfl, ⟨by kernel_rfl, _, rfl, rfl⟩, by decide⟩, trivial⟩
theorem tau_ok : TauOK Try.prog (tyTab types) := tyTab_ok types_ok
theorem mixed : Try.prog.follows .mixedOrders = true := by kernel_rfl
def tapearchivelaw10_lightBlocks_e (d : Nat) : Env [.v .bool] where
  τ := tyTab types
  n := 20
  Γ := tab []
  res := [.tmp 2]
  loopN := tab []
  loopR := tab [(0, ⟨⟨[(0, .p (.slice kBlock)), (3, .p (.int .i64))], []⟩, ⟨[], []⟩, fun x => tapearchivelaw10_lightBlocks_l0 d d x.1 x.2⟩)]
  join := tab []
  loopX := tab []
  unroll := tab []
theorem tapearchivelaw10_lightBlocks_G (d : Nat) : ∀ f sp, (tapearchivelaw10_lightBlocks_e d).Γ f = some sp → SpecOK Try.prog f sp := tab_all (all_mem trivial)
theorem tapearchivelaw10_lightBlocks_l0_ok (d : Nat) (C : Cx) (hC : (tapearchivelaw10_lightBlocks_e d).n = C.n) : ∀ k, LoopR Try.prog C (tapearchivelaw10_lightBlocks_e d) (loopAt (bodyOf Try.f19) 0) 0 ⟨⟨[(0, .p (.slice kBlock)), (3, .p (.int .i64))], []⟩, ⟨[], []⟩, fun x => tapearchivelaw10_lightBlocks_l0 d k x.1 x.2⟩ :=
  loopR_ok (outs := [.v .bool]) ⟨[(0, .p (.slice kBlock)), (3, .p (.int .i64))], []⟩ ⟨[], []⟩ (fun k x => tapearchivelaw10_lightBlocks_l0 d k x.1 x.2) (fun _ => tapearchivelaw10_lightBlocks_e d) (fun _ => ⟨tau_ok, hC, tapearchivelaw10_lightBlocks_G d⟩) mixed (fun _ => loops_of (l := []) (by kernel_rfl) (all_mem trivial)) (fun _ => rfl) (fun _ => rfl) (fun _ => rfl) (fun k x => by kernel_rfl)
theorem tapearchivelaw10_lightBlocks_ok (d : Nat) : SpecOK Try.prog 19 ⟨[.v (.slice kBlock)], [.v .bool], fun x => tapearchivelaw10_lightBlocks d x⟩ :=
  fn_ok (e := tapearchivelaw10_lightBlocks_e d) (c := bodyOf Try.f19) Try.func19 (by kernel_rfl) (by decide +kernel) mixed tau_ok (tapearchivelaw10_lightBlocks_G d) rfl (by decide) (by decide) (by kernel_rfl) rfl (by decide) (fun C hC => loops_of (l := [(0, loopAt (bodyOf Try.f19) 0)]) (by kernel_rfl) (all_mem ⟨⟨tab_none rfl, tab_none rfl, tab_one rfl (tapearchivelaw10_lightBlocks_l0_ok d C hC d), tab_none rfl⟩, trivial⟩)) (fun x => by kernel_rfl)
def tapearchivelaw10_light_e (d : Nat) : Env [.v .bool] where
  τ := tyTab types
  n := 12
  Γ := tab [(19, ⟨[.v (.slice kBlock)], [.v .bool], fun x => tapearchivelaw10_lightBlocks d x⟩)]
  res := [.tmp 2]
  loopN := tab []
  loopR := tab []
  join := tab []
  loopX := tab []
  unroll := tab []
theorem tapearchivelaw10_light_G (d : Nat) : ∀ f sp, (tapearchivelaw10_light_e d).Γ f = some sp → SpecOK Try.prog f sp := tab_all (all_mem ⟨tapearchivelaw10_lightBlocks_ok d, trivial⟩)
theorem tapearchivelaw10_light_ok (d : Nat) : SpecOK Try.prog 10 ⟨[.v kCartridge], [.v .bool], fun x => tapearchivelaw10_light d x⟩ :=
  fn_ok (e := tapearchivelaw10_light_e d) (c := bodyOf Try.f10) Try.func10 (by kernel_rfl) (by decide +kernel) mixed tau_ok (tapearchivelaw10_light_G d) rfl (by decide) (by decide) (by kernel_rfl) rfl (by decide) (fun C hC => loops_of (l := []) (by kernel_rfl) (all_mem trivial)) (fun x => by kernel_rfl)
def cartridge_barcode_e (d : Nat) : Env [.v .bool] where
  τ := tyTab types
  n := 35
  Γ := tab []
  res := [.tmp 2]
  loopN := tab []
  loopR := tab [(0, ⟨⟨[(0, .p .str), (6, .p (.slice (.int .u8))), (7, .p (.int .i64)), (8, .p (.int .i64))], []⟩, ⟨[(0, .p .str)], []⟩, fun x => cartridge_barcode_l0 d d x.1 x.2.1 x.2.2.1 x.2.2.2⟩)]
  join := tab []
  loopX := tab []
  unroll := tab []
theorem cartridge_barcode_G (d : Nat) : ∀ f sp, (cartridge_barcode_e d).Γ f = some sp → SpecOK Try.prog f sp := tab_all (all_mem trivial)
theorem cartridge_barcode_l0_ok (d : Nat) (C : Cx) (hC : (cartridge_barcode_e d).n = C.n) : ∀ k, LoopR Try.prog C (cartridge_barcode_e d) (loopAt (bodyOf Try.f32) 0) 0 ⟨⟨[(0, .p .str), (6, .p (.slice (.int .u8))), (7, .p (.int .i64)), (8, .p (.int .i64))], []⟩, ⟨[(0, .p .str)], []⟩, fun x => cartridge_barcode_l0 d k x.1 x.2.1 x.2.2.1 x.2.2.2⟩ :=
  loopR_ok (outs := [.v .bool]) ⟨[(0, .p .str), (6, .p (.slice (.int .u8))), (7, .p (.int .i64)), (8, .p (.int .i64))], []⟩ ⟨[(0, .p .str)], []⟩ (fun k x => cartridge_barcode_l0 d k x.1 x.2.1 x.2.2.1 x.2.2.2) (fun _ => cartridge_barcode_e d) (fun _ => ⟨tau_ok, hC, cartridge_barcode_G d⟩) mixed (fun _ => loops_of (l := []) (by kernel_rfl) (all_mem trivial)) (fun _ => rfl) (fun _ => rfl) (fun _ => rfl) (fun k x => by kernel_rfl)
theorem cartridge_barcode_ok (d : Nat) : SpecOK Try.prog 32 ⟨[.v .str], [.v .bool], fun x => cartridge_barcode d x⟩ :=
  fn_ok (e := cartridge_barcode_e d) (c := bodyOf Try.f32) Try.func32 (by kernel_rfl) (by decide +kernel) mixed tau_ok (cartridge_barcode_G d) rfl (by decide) (by decide) (by kernel_rfl) rfl (by decide) (fun C hC => loops_of (l := [(0, loopAt (bodyOf Try.f32) 0)]) (by kernel_rfl) (all_mem ⟨⟨tab_none rfl, tab_none rfl, tab_one rfl (cartridge_barcode_l0_ok d C hC d), tab_none rfl⟩, trivial⟩)) (fun x => by kernel_rfl)
def serpentine_timed_e (d : Nat) : Env [.v .bool] where
  τ := tyTab types
  n := 18
  Γ := tab []
  res := [.tmp 2]
  loopN := tab []
  loopR := tab [(0, ⟨⟨[(5, .p (.slice (.int .i64))), (6, .p (.int .i64)), (7, .p (.int .i64))], []⟩, ⟨[], []⟩, fun x => serpentine_timed_l0 d d x.1 x.2.1 x.2.2⟩)]
  join := tab []
  loopX := tab []
  unroll := tab []
theorem serpentine_timed_G (d : Nat) : ∀ f sp, (serpentine_timed_e d).Γ f = some sp → SpecOK Try.prog f sp := tab_all (all_mem trivial)
theorem serpentine_timed_l0_ok (d : Nat) (C : Cx) (hC : (serpentine_timed_e d).n = C.n) : ∀ k, LoopR Try.prog C (serpentine_timed_e d) (loopAt (bodyOf Try.f49) 0) 0 ⟨⟨[(5, .p (.slice (.int .i64))), (6, .p (.int .i64)), (7, .p (.int .i64))], []⟩, ⟨[], []⟩, fun x => serpentine_timed_l0 d k x.1 x.2.1 x.2.2⟩ :=
  loopR_ok (outs := [.v .bool]) ⟨[(5, .p (.slice (.int .i64))), (6, .p (.int .i64)), (7, .p (.int .i64))], []⟩ ⟨[], []⟩ (fun k x => serpentine_timed_l0 d k x.1 x.2.1 x.2.2) (fun _ => serpentine_timed_e d) (fun _ => ⟨tau_ok, hC, serpentine_timed_G d⟩) mixed (fun _ => loops_of (l := []) (by kernel_rfl) (all_mem trivial)) (fun _ => rfl) (fun _ => rfl) (fun _ => rfl) (fun k x => by kernel_rfl)
theorem serpentine_timed_ok (d : Nat) : SpecOK Try.prog 49 ⟨[.v (.slice (.int .i64))], [.v .bool], fun x => serpentine_timed d x⟩ :=
  fn_ok (e := serpentine_timed_e d) (c := bodyOf Try.f49) Try.func49 (by kernel_rfl) (by decide +kernel) mixed tau_ok (serpentine_timed_G d) rfl (by decide) (by decide) (by kernel_rfl) rfl (by decide) (fun C hC => loops_of (l := [(0, loopAt (bodyOf Try.f49) 0)]) (by kernel_rfl) (all_mem ⟨⟨tab_none rfl, tab_none rfl, tab_one rfl (serpentine_timed_l0_ok d C hC d), tab_none rfl⟩, trivial⟩)) (fun x => by kernel_rfl)
def serpentine_Valid_e (d : Nat) : Env [.v .bool] where
  τ := tyTab types
  n := 34
  Γ := tab [(49, ⟨[.v (.slice (.int .i64))], [.v .bool], fun x => serpentine_timed d x⟩)]
  res := [.tmp 2]
  loopN := tab []
  loopR := tab []
  join := tab [(3, ⟨[(1, .ad 1 0)], [(1, .agg 23 kGeometry)]⟩)]
  loopX := tab []
  unroll := tab []
theorem serpentine_Valid_G (d : Nat) : ∀ f sp, (serpentine_Valid_e d).Γ f = some sp → SpecOK Try.prog f sp := tab_all (all_mem ⟨serpentine_timed_ok d, trivial⟩)
theorem serpentine_Valid_ok (d : Nat) : SpecOK Try.prog 33 ⟨[.v kGeometry], [.v .bool], fun x => serpentine_Valid d x⟩ :=
  fn_ok (e := serpentine_Valid_e d) (c := bodyOf Try.f33) Try.func33 (by kernel_rfl) (by decide +kernel) mixed tau_ok (serpentine_Valid_G d) rfl (by decide) (by decide) (by kernel_rfl) rfl (by decide) (fun C hC => loops_of (l := []) (by kernel_rfl) (all_mem trivial)) (fun x => by kernel_rfl)
def cartridge_New_e (d : Nat) : Env [.v kCartridge, .v (.int .i64)] where
  τ := tyTab types
  n := 22
  Γ := tab [(32, ⟨[.v .str], [.v .bool], fun x => cartridge_barcode d x⟩), (33, ⟨[.v kGeometry], [.v .bool], fun x => serpentine_Valid d x⟩)]
  res := [.cell 6 26, .tmp 7]
  loopN := tab []
  loopR := tab []
  join := tab []
  loopX := tab []
  unroll := tab []
theorem cartridge_New_G (d : Nat) : ∀ f sp, (cartridge_New_e d).Γ f = some sp → SpecOK Try.prog f sp := tab_all (all_mem ⟨cartridge_barcode_ok d, serpentine_Valid_ok d, trivial⟩)
theorem cartridge_New_ok (d : Nat) : SpecOK Try.prog 12 ⟨[.v .str, .v kGeometry, .v .bool], [.v kCartridge, .v (.int .i64)], fun x => cartridge_New d x.1 x.2.1 x.2.2⟩ :=
  fn_ok (e := cartridge_New_e d) (c := bodyOf Try.f12) Try.func12 (by kernel_rfl) (by decide +kernel) mixed tau_ok (cartridge_New_G d) rfl (by decide) (by decide) (by kernel_rfl) rfl (by decide) (fun C hC => loops_of (l := []) (by kernel_rfl) (all_mem trivial)) (fun x => by kernel_rfl)
def serpentine_Capacity_e (d : Nat) : Env [.v (.int .i64)] where
  τ := tyTab types
  n := 11
  Γ := tab [(33, ⟨[.v kGeometry], [.v .bool], fun x => serpentine_Valid d x⟩)]
  res := [.tmp 2]
  loopN := tab []
  loopR := tab []
  join := tab []
  loopX := tab []
  unroll := tab []
theorem serpentine_Capacity_G (d : Nat) : ∀ f sp, (serpentine_Capacity_e d).Γ f = some sp → SpecOK Try.prog f sp := tab_all (all_mem ⟨serpentine_Valid_ok d, trivial⟩)
theorem serpentine_Capacity_ok (d : Nat) : SpecOK Try.prog 38 ⟨[.v kGeometry], [.v (.int .i64)], fun x => serpentine_Capacity d x⟩ :=
  fn_ok (e := serpentine_Capacity_e d) (c := bodyOf Try.f38) Try.func38 (by kernel_rfl) (by decide +kernel) mixed tau_ok (serpentine_Capacity_G d) rfl (by decide) (by decide) (by kernel_rfl) rfl (by decide) (fun C hC => loops_of (l := []) (by kernel_rfl) (all_mem trivial)) (fun x => by kernel_rfl)
def cartridge_counter_e (d : Nat) : Env [.v .bool] where
  τ := tyTab types
  n := 9
  Γ := tab []
  res := [.tmp 2]
  loopN := tab []
  loopR := tab []
  join := tab []
  loopX := tab []
  unroll := tab []
theorem cartridge_counter_G (d : Nat) : ∀ f sp, (cartridge_counter_e d).Γ f = some sp → SpecOK Try.prog f sp := tab_all (all_mem trivial)
theorem cartridge_counter_ok (d : Nat) : SpecOK Try.prog 39 ⟨[.v (.int .i64)], [.v .bool], fun x => cartridge_counter d x⟩ :=
  fn_ok (e := cartridge_counter_e d) (c := bodyOf Try.f39) Try.func39 (by kernel_rfl) (by decide +kernel) mixed tau_ok (cartridge_counter_G d) rfl (by decide) (by decide) (by kernel_rfl) rfl (by decide) (fun C hC => loops_of (l := []) (by kernel_rfl) (all_mem trivial)) (fun x => by kernel_rfl)
def cartridge_block_e (d : Nat) : Env [.v .bool] where
  τ := tyTab types
  n := 19
  Γ := tab []
  res := [.tmp 2]
  loopN := tab []
  loopR := tab []
  join := tab []
  loopX := tab []
  unroll := tab []
theorem cartridge_block_G (d : Nat) : ∀ f sp, (cartridge_block_e d).Γ f = some sp → SpecOK Try.prog f sp := tab_all (all_mem trivial)
theorem cartridge_block_ok (d : Nat) : SpecOK Try.prog 37 ⟨[.v kBlock], [.v .bool], fun x => cartridge_block d x⟩ :=
  fn_ok (e := cartridge_block_e d) (c := bodyOf Try.f37) Try.func37 (by kernel_rfl) (by decide +kernel) mixed tau_ok (cartridge_block_G d) rfl (by decide) (by decide) (by kernel_rfl) rfl (by decide) (fun C hC => loops_of (l := []) (by kernel_rfl) (all_mem trivial)) (fun x => by kernel_rfl)
def cartridge_Valid_1_e (d : Nat) : Env [.v .bool] where
  τ := tyTab types
  n := 6
  Γ := tab [(37, ⟨[.v kBlock], [.v .bool], fun x => cartridge_block d x⟩)]
  res := [.tmp 2]
  loopN := tab []
  loopR := tab []
  join := tab []
  loopX := tab []
  unroll := tab []
theorem cartridge_Valid_1_G (d : Nat) : ∀ f sp, (cartridge_Valid_1_e d).Γ f = some sp → SpecOK Try.prog f sp := tab_all (all_mem ⟨cartridge_block_ok d, trivial⟩)
theorem cartridge_Valid_1_ok (d : Nat) : SpecOK Try.prog 36 ⟨[.v kBlock], [.v .bool], fun x => cartridge_Valid_1 d x⟩ :=
  fn_ok (e := cartridge_Valid_1_e d) (c := bodyOf Try.f36) Try.func36 (by kernel_rfl) (by decide +kernel) mixed tau_ok (cartridge_Valid_1_G d) rfl (by decide) (by decide) (by kernel_rfl) rfl (by decide) (fun C hC => loops_of (l := []) (by kernel_rfl) (all_mem trivial)) (fun x => by kernel_rfl)
def slices_IndexFunc_api_Block_cartridge_Valid_1_e (d : Nat) : Env [.v (.int .i64)] where
  τ := tyTab types
  n := 19
  Γ := tab [(36, ⟨[.v kBlock], [.v .bool], fun x => cartridge_Valid_1 d x⟩)]
  res := [.tmp 4]
  loopN := tab []
  loopR := tab [(0, ⟨⟨[(0, .p (.slice kBlock)), (1, .fn 36 []), (7, .p (.int .i64)), (8, .p (.int .i64))], []⟩, ⟨[], []⟩, fun x => slices_IndexFunc_api_Block_cartridge_Valid_1_l0 d d x.1 x.2.1 x.2.2⟩)]
  join := tab []
  loopX := tab []
  unroll := tab []
theorem slices_IndexFunc_api_Block_cartridge_Valid_1_G (d : Nat) : ∀ f sp, (slices_IndexFunc_api_Block_cartridge_Valid_1_e d).Γ f = some sp → SpecOK Try.prog f sp := tab_all (all_mem ⟨cartridge_Valid_1_ok d, trivial⟩)
theorem slices_IndexFunc_api_Block_cartridge_Valid_1_l0_ok (d : Nat) (C : Cx) (hC : (slices_IndexFunc_api_Block_cartridge_Valid_1_e d).n = C.n) : ∀ k, LoopR Try.prog C (slices_IndexFunc_api_Block_cartridge_Valid_1_e d) (loopAt (bodyOf Try.f47) 0) 0 ⟨⟨[(0, .p (.slice kBlock)), (1, .fn 36 []), (7, .p (.int .i64)), (8, .p (.int .i64))], []⟩, ⟨[], []⟩, fun x => slices_IndexFunc_api_Block_cartridge_Valid_1_l0 d k x.1 x.2.1 x.2.2⟩ :=
  loopR_ok (outs := [.v (.int .i64)]) ⟨[(0, .p (.slice kBlock)), (1, .fn 36 []), (7, .p (.int .i64)), (8, .p (.int .i64))], []⟩ ⟨[], []⟩ (fun k x => slices_IndexFunc_api_Block_cartridge_Valid_1_l0 d k x.1 x.2.1 x.2.2) (fun _ => slices_IndexFunc_api_Block_cartridge_Valid_1_e d) (fun _ => ⟨tau_ok, hC, slices_IndexFunc_api_Block_cartridge_Valid_1_G d⟩) mixed (fun _ => loops_of (l := []) (by kernel_rfl) (all_mem trivial)) (fun _ => rfl) (fun _ => rfl) (fun _ => rfl) (fun k x => by kernel_rfl)
theorem slices_IndexFunc_api_Block_cartridge_Valid_1_ok (d : Nat) : SpecOK Try.prog 47 ⟨[.v (.slice kBlock), .f 36 []], [.v (.int .i64)], fun x => slices_IndexFunc_api_Block_cartridge_Valid_1 d x⟩ :=
  fn_ok (e := slices_IndexFunc_api_Block_cartridge_Valid_1_e d) (c := bodyOf Try.f47) Try.func47 (by kernel_rfl) (by decide +kernel) mixed tau_ok (slices_IndexFunc_api_Block_cartridge_Valid_1_G d) rfl (by decide) (by decide) (by kernel_rfl) rfl (by decide) (fun C hC => loops_of (l := [(0, loopAt (bodyOf Try.f47) 0)]) (by kernel_rfl) (all_mem ⟨⟨tab_none rfl, tab_none rfl, tab_one rfl (slices_IndexFunc_api_Block_cartridge_Valid_1_l0_ok d C hC d), tab_none rfl⟩, trivial⟩)) (fun x => by kernel_rfl)
def slices_ContainsFunc_api_Block_cartridge_Valid_1_e (d : Nat) : Env [.v .bool] where
  τ := tyTab types
  n := 9
  Γ := tab [(47, ⟨[.v (.slice kBlock), .f 36 []], [.v (.int .i64)], fun x => slices_IndexFunc_api_Block_cartridge_Valid_1 d x⟩)]
  res := [.tmp 4]
  loopN := tab []
  loopR := tab []
  join := tab []
  loopX := tab []
  unroll := tab []
theorem slices_ContainsFunc_api_Block_cartridge_Valid_1_G (d : Nat) : ∀ f sp, (slices_ContainsFunc_api_Block_cartridge_Valid_1_e d).Γ f = some sp → SpecOK Try.prog f sp := tab_all (all_mem ⟨slices_IndexFunc_api_Block_cartridge_Valid_1_ok d, trivial⟩)
theorem slices_ContainsFunc_api_Block_cartridge_Valid_1_ok (d : Nat) : SpecOK Try.prog 40 ⟨[.v (.slice kBlock), .f 36 []], [.v .bool], fun x => slices_ContainsFunc_api_Block_cartridge_Valid_1 d x⟩ :=
  fn_ok (e := slices_ContainsFunc_api_Block_cartridge_Valid_1_e d) (c := bodyOf Try.f40) Try.func40 (by kernel_rfl) (by decide +kernel) mixed tau_ok (slices_ContainsFunc_api_Block_cartridge_Valid_1_G d) rfl (by decide) (by decide) (by kernel_rfl) rfl (by decide) (fun C hC => loops_of (l := []) (by kernel_rfl) (all_mem trivial)) (fun x => by kernel_rfl)
def cartridge_Valid_e (d : Nat) : Env [.v .bool] where
  τ := tyTab types
  n := 43
  Γ := tab [(32, ⟨[.v .str], [.v .bool], fun x => cartridge_barcode d x⟩), (33, ⟨[.v kGeometry], [.v .bool], fun x => serpentine_Valid d x⟩), (38, ⟨[.v kGeometry], [.v (.int .i64)], fun x => serpentine_Capacity d x⟩), (39, ⟨[.v (.int .i64)], [.v .bool], fun x => cartridge_counter d x⟩), (40, ⟨[.v (.slice kBlock), .f 36 []], [.v .bool], fun x => slices_ContainsFunc_api_Block_cartridge_Valid_1 d x⟩)]
  res := [.tmp 2]
  loopN := tab []
  loopR := tab []
  join := tab []
  loopX := tab []
  unroll := tab []
theorem cartridge_Valid_G (d : Nat) : ∀ f sp, (cartridge_Valid_e d).Γ f = some sp → SpecOK Try.prog f sp := tab_all (all_mem ⟨cartridge_barcode_ok d, serpentine_Valid_ok d, serpentine_Capacity_ok d, cartridge_counter_ok d, slices_ContainsFunc_api_Block_cartridge_Valid_1_ok d, trivial⟩)
theorem cartridge_Valid_ok (d : Nat) : SpecOK Try.prog 14 ⟨[.v kCartridge], [.v .bool], fun x => cartridge_Valid d x⟩ :=
  fn_ok (e := cartridge_Valid_e d) (c := bodyOf Try.f14) Try.func14 (by kernel_rfl) (by decide +kernel) mixed tau_ok (cartridge_Valid_G d) rfl (by decide) (by decide) (by kernel_rfl) rfl (by decide) (fun C hC => loops_of (l := []) (by kernel_rfl) (all_mem trivial)) (fun x => by kernel_rfl)
def cartridge_Free_e (d : Nat) : Env [.v (.int .i64)] where
  τ := tyTab types
  n := 17
  Γ := tab [(14, ⟨[.v kCartridge], [.v .bool], fun x => cartridge_Valid d x⟩), (38, ⟨[.v kGeometry], [.v (.int .i64)], fun x => serpentine_Capacity d x⟩)]
  res := [.tmp 2]
  loopN := tab []
  loopR := tab []
  join := tab [(3, ⟨[(1, .ad 1 0)], [(1, .agg 26 kCartridge)]⟩)]
  loopX := tab []
  unroll := tab []
theorem cartridge_Free_G (d : Nat) : ∀ f sp, (cartridge_Free_e d).Γ f = some sp → SpecOK Try.prog f sp := tab_all (all_mem ⟨cartridge_Valid_ok d, serpentine_Capacity_ok d, trivial⟩)
theorem cartridge_Free_ok (d : Nat) : SpecOK Try.prog 17 ⟨[.v kCartridge], [.v (.int .i64)], fun x => cartridge_Free d x⟩ :=
  fn_ok (e := cartridge_Free_e d) (c := bodyOf Try.f17) Try.func17 (by kernel_rfl) (by decide +kernel) mixed tau_ok (cartridge_Free_G d) rfl (by decide) (by decide) (by kernel_rfl) rfl (by decide) (fun C hC => loops_of (l := []) (by kernel_rfl) (all_mem trivial)) (fun x => by kernel_rfl)
def cartridge_writable_1_e (d : Nat) : Env [.v .bool] where
  τ := tyTab types
  n := 10
  Γ := tab [(37, ⟨[.v kBlock], [.v .bool], fun x => cartridge_block d x⟩)]
  res := [.tmp 2]
  loopN := tab []
  loopR := tab []
  join := tab []
  loopX := tab []
  unroll := tab []
theorem cartridge_writable_1_G (d : Nat) : ∀ f sp, (cartridge_writable_1_e d).Γ f = some sp → SpecOK Try.prog f sp := tab_all (all_mem ⟨cartridge_block_ok d, trivial⟩)
theorem cartridge_writable_1_ok (d : Nat) : SpecOK Try.prog 51 ⟨[.v kBlock], [.v .bool], fun x => cartridge_writable_1 d x⟩ :=
  fn_ok (e := cartridge_writable_1_e d) (c := bodyOf Try.f51) Try.func51 (by kernel_rfl) (by decide +kernel) mixed tau_ok (cartridge_writable_1_G d) rfl (by decide) (by decide) (by kernel_rfl) rfl (by decide) (fun C hC => loops_of (l := []) (by kernel_rfl) (all_mem trivial)) (fun x => by kernel_rfl)
def slices_IndexFunc_api_Block_cartridge_writable_1_e (d : Nat) : Env [.v (.int .i64)] where
  τ := tyTab types
  n := 19
  Γ := tab [(51, ⟨[.v kBlock], [.v .bool], fun x => cartridge_writable_1 d x⟩)]
  res := [.tmp 4]
  loopN := tab []
  loopR := tab [(0, ⟨⟨[(0, .p (.slice kBlock)), (1, .fn 51 []), (7, .p (.int .i64)), (8, .p (.int .i64))], []⟩, ⟨[], []⟩, fun x => slices_IndexFunc_api_Block_cartridge_writable_1_l0 d d x.1 x.2.1 x.2.2⟩)]
  join := tab []
  loopX := tab []
  unroll := tab []
theorem slices_IndexFunc_api_Block_cartridge_writable_1_G (d : Nat) : ∀ f sp, (slices_IndexFunc_api_Block_cartridge_writable_1_e d).Γ f = some sp → SpecOK Try.prog f sp := tab_all (all_mem ⟨cartridge_writable_1_ok d, trivial⟩)
theorem slices_IndexFunc_api_Block_cartridge_writable_1_l0_ok (d : Nat) (C : Cx) (hC : (slices_IndexFunc_api_Block_cartridge_writable_1_e d).n = C.n) : ∀ k, LoopR Try.prog C (slices_IndexFunc_api_Block_cartridge_writable_1_e d) (loopAt (bodyOf Try.f47) 0) 0 ⟨⟨[(0, .p (.slice kBlock)), (1, .fn 51 []), (7, .p (.int .i64)), (8, .p (.int .i64))], []⟩, ⟨[], []⟩, fun x => slices_IndexFunc_api_Block_cartridge_writable_1_l0 d k x.1 x.2.1 x.2.2⟩ :=
  loopR_ok (outs := [.v (.int .i64)]) ⟨[(0, .p (.slice kBlock)), (1, .fn 51 []), (7, .p (.int .i64)), (8, .p (.int .i64))], []⟩ ⟨[], []⟩ (fun k x => slices_IndexFunc_api_Block_cartridge_writable_1_l0 d k x.1 x.2.1 x.2.2) (fun _ => slices_IndexFunc_api_Block_cartridge_writable_1_e d) (fun _ => ⟨tau_ok, hC, slices_IndexFunc_api_Block_cartridge_writable_1_G d⟩) mixed (fun _ => loops_of (l := []) (by kernel_rfl) (all_mem trivial)) (fun _ => rfl) (fun _ => rfl) (fun _ => rfl) (fun k x => by kernel_rfl)
theorem slices_IndexFunc_api_Block_cartridge_writable_1_ok (d : Nat) : SpecOK Try.prog 47 ⟨[.v (.slice kBlock), .f 51 []], [.v (.int .i64)], fun x => slices_IndexFunc_api_Block_cartridge_writable_1 d x⟩ :=
  fn_ok (e := slices_IndexFunc_api_Block_cartridge_writable_1_e d) (c := bodyOf Try.f47) Try.func47 (by kernel_rfl) (by decide +kernel) mixed tau_ok (slices_IndexFunc_api_Block_cartridge_writable_1_G d) rfl (by decide) (by decide) (by kernel_rfl) rfl (by decide) (fun C hC => loops_of (l := [(0, loopAt (bodyOf Try.f47) 0)]) (by kernel_rfl) (all_mem ⟨⟨tab_none rfl, tab_none rfl, tab_one rfl (slices_IndexFunc_api_Block_cartridge_writable_1_l0_ok d C hC d), tab_none rfl⟩, trivial⟩)) (fun x => by kernel_rfl)
def slices_ContainsFunc_api_Block_cartridge_writable_1_e (d : Nat) : Env [.v .bool] where
  τ := tyTab types
  n := 9
  Γ := tab [(47, ⟨[.v (.slice kBlock), .f 51 []], [.v (.int .i64)], fun x => slices_IndexFunc_api_Block_cartridge_writable_1 d x⟩)]
  res := [.tmp 4]
  loopN := tab []
  loopR := tab []
  join := tab []
  loopX := tab []
  unroll := tab []
theorem slices_ContainsFunc_api_Block_cartridge_writable_1_G (d : Nat) : ∀ f sp, (slices_ContainsFunc_api_Block_cartridge_writable_1_e d).Γ f = some sp → SpecOK Try.prog f sp := tab_all (all_mem ⟨slices_IndexFunc_api_Block_cartridge_writable_1_ok d, trivial⟩)
theorem slices_ContainsFunc_api_Block_cartridge_writable_1_ok (d : Nat) : SpecOK Try.prog 40 ⟨[.v (.slice kBlock), .f 51 []], [.v .bool], fun x => slices_ContainsFunc_api_Block_cartridge_writable_1 d x⟩ :=
  fn_ok (e := slices_ContainsFunc_api_Block_cartridge_writable_1_e d) (c := bodyOf Try.f40) Try.func40 (by kernel_rfl) (by decide +kernel) mixed tau_ok (slices_ContainsFunc_api_Block_cartridge_writable_1_G d) rfl (by decide) (by decide) (by kernel_rfl) rfl (by decide) (fun C hC => loops_of (l := []) (by kernel_rfl) (all_mem trivial)) (fun x => by kernel_rfl)
def cartridge_writable_e (d : Nat) : Env [.v (.int .i64)] where
  τ := tyTab types
  n := 49
  Γ := tab [(14, ⟨[.v kCartridge], [.v .bool], fun x => cartridge_Valid d x⟩), (38, ⟨[.v kGeometry], [.v (.int .i64)], fun x => serpentine_Capacity d x⟩), (40, ⟨[.v (.slice kBlock), .f 51 []], [.v .bool], fun x => slices_ContainsFunc_api_Block_cartridge_writable_1 d x⟩)]
  res := [.tmp 6]
  loopN := tab []
  loopR := tab []
  join := tab []
  loopX := tab []
  unroll := tab []
theorem cartridge_writable_G (d : Nat) : ∀ f sp, (cartridge_writable_e d).Γ f = some sp → SpecOK Try.prog f sp := tab_all (all_mem ⟨cartridge_Valid_ok d, serpentine_Capacity_ok d, slices_ContainsFunc_api_Block_cartridge_writable_1_ok d, trivial⟩)
theorem cartridge_writable_ok (d : Nat) : SpecOK Try.prog 44 ⟨[.v kCartridge, .v (.int .i64), .v (.slice kBlock)], [.v (.int .i64)], fun x => cartridge_writable d x.1 x.2.1 x.2.2⟩ :=
  fn_ok (e := cartridge_writable_e d) (c := bodyOf Try.f44) Try.func44 (by kernel_rfl) (by decide +kernel) mixed tau_ok (cartridge_writable_G d) rfl (by decide) (by decide) (by kernel_rfl) rfl (by decide) (fun C hC => loops_of (l := []) (by kernel_rfl) (all_mem trivial)) (fun x => by kernel_rfl)
def cartridge_with_e (d : Nat) : Env [.v kCartridge] where
  τ := tyTab types
  n := 8
  Γ := tab []
  res := [.cell 4 26]
  loopN := tab []
  loopR := tab []
  join := tab []
  loopX := tab []
  unroll := tab []
theorem cartridge_with_G (d : Nat) : ∀ f sp, (cartridge_with_e d).Γ f = some sp → SpecOK Try.prog f sp := tab_all (all_mem trivial)
theorem cartridge_with_ok (d : Nat) : SpecOK Try.prog 45 ⟨[.v kCartridge, .v (.slice kBlock)], [.v kCartridge], fun x => cartridge_with d x.1 x.2⟩ :=
  fn_ok (e := cartridge_with_e d) (c := bodyOf Try.f45) Try.func45 (by kernel_rfl) (by decide +kernel) mixed tau_ok (cartridge_with_G d) rfl (by decide) (by decide) (by kernel_rfl) rfl (by decide) (fun C hC => loops_of (l := []) (by kernel_rfl) (all_mem trivial)) (fun x => by kernel_rfl)
def slices_Clone_byte_e (d : Nat) : Env [.v (.slice (.int .u8))] where
  τ := tyTab types
  n := 8
  Γ := tab []
  res := [.tmp 2]
  loopN := tab []
  loopR := tab []
  join := tab []
  loopX := tab []
  unroll := tab []
theorem slices_Clone_byte_ok (d : Nat) : SpecOK Try.prog 52 ⟨[.v (.slice (.int .u8))], [.v (.slice (.int .u8))], fun x => slices_Clone_byte d x⟩ :=
  clone_ok (F := slices_Clone_byte d) (e := slices_Clone_byte_e d) (fn := Try.f52) (t := 52) (e0 := 5) (by_ := 24) (t' := 52) (i1 := 1) (o1 := opAt (seqL (seqL (seqR (bodyOf Try.f52)))) 0) (o2 := opAt (seqL (seqL (seqR (bodyOf Try.f52)))) 1) (r0 := seqL (bodyOf Try.f52)) (ca := condT (seqR (seqL (seqR (bodyOf Try.f52))))) (b := seqR (seqR (bodyOf Try.f52))) (s0 := fun xs => ⟨upd (init [.v (.slice (.int .u8))] xs).t 2 .nilsl, fun _ => none⟩)
    Try.func52 (by kernel_rfl) (by decide +kernel) mixed tau_ok (tab_all (all_mem trivial)) rfl (by decide) (by decide) (by kernel_rfl) (by kernel_rfl) (by decide) (by kernel_rfl) (by kernel_rfl) (by kernel_rfl) (by kernel_rfl) (by kernel_rfl) (by kernel_rfl)
    (fun C => ⟨loops_of (l := []) (by kernel_rfl) (all_mem trivial), loops_of (l := []) (by kernel_rfl) (all_mem trivial), loops_of (l := []) (by kernel_rfl) (all_mem trivial)⟩) (fun xs => by kernel_rfl) (fun xs => rfl) (fun xs => by kernel_rfl) (fun xs => by kernel_rfl) (by kernel_rfl)
def cartridge_copied_e (d : Nat) : Env [.o 54 kBlock true] where
  τ := tyTab types
  n := 34
  Γ := tab [(52, ⟨[.v (.slice (.int .u8))], [.v (.slice (.int .u8))], fun x => slices_Clone_byte d x⟩)]
  res := [.tmp 2]
  loopN := tab [(0, ⟨⟨[(3, .slw 8 true), (9, .p (.slice kBlock)), (10, .p (.int .i64)), (11, .p (.int .i64))], [(8, .list 54 kBlock)]⟩, ⟨[(3, .slw 8 true)], [(8, .list 54 kBlock)]⟩, fun x => cartridge_copied_l0 d d x.1 x.2.1 x.2.2.1 x.2.2.2⟩)]
  loopR := tab []
  join := tab []
  loopX := tab []
  unroll := tab []
theorem cartridge_copied_G (d : Nat) : ∀ f sp, (cartridge_copied_e d).Γ f = some sp → SpecOK Try.prog f sp := tab_all (all_mem ⟨slices_Clone_byte_ok d, trivial⟩)
theorem cartridge_copied_l0_ok (d : Nat) (C : Cx) (hC : (cartridge_copied_e d).n = C.n) : ∀ k, LoopN Try.prog C (loopAt (bodyOf Try.f46) 0) 0 ⟨⟨[(3, .slw 8 true), (9, .p (.slice kBlock)), (10, .p (.int .i64)), (11, .p (.int .i64))], [(8, .list 54 kBlock)]⟩, ⟨[(3, .slw 8 true)], [(8, .list 54 kBlock)]⟩, fun x => cartridge_copied_l0 d k x.1 x.2.1 x.2.2.1 x.2.2.2⟩ :=
  loopN_ok (outs := [.o 54 kBlock true]) ⟨[(3, .slw 8 true), (9, .p (.slice kBlock)), (10, .p (.int .i64)), (11, .p (.int .i64))], [(8, .list 54 kBlock)]⟩ ⟨[(3, .slw 8 true)], [(8, .list 54 kBlock)]⟩ (fun k x => cartridge_copied_l0 d k x.1 x.2.1 x.2.2.1 x.2.2.2) (fun _ => cartridge_copied_e d) (fun _ => ⟨tau_ok, hC, cartridge_copied_G d⟩) mixed (fun _ => loops_of (l := []) (by kernel_rfl) (all_mem trivial)) (fun _ => rfl) (fun k x => by kernel_rfl)
theorem cartridge_copied_ok (d : Nat) : SpecOK Try.prog 46 ⟨[.v (.slice kBlock)], [.o 54 kBlock true], fun x => cartridge_copied d x⟩ :=
  fn_ok (e := cartridge_copied_e d) (c := bodyOf Try.f46) Try.func46 (by kernel_rfl) (by decide +kernel) mixed tau_ok (cartridge_copied_G d) rfl (by decide) (by decide) (by kernel_rfl) rfl (by decide) (fun C hC => loops_of (l := [(0, loopAt (bodyOf Try.f46) 0)]) (by kernel_rfl) (all_mem ⟨⟨tab_none rfl, tab_one rfl (cartridge_copied_l0_ok d C hC d), tab_none rfl, tab_none rfl⟩, trivial⟩)) (fun x => by kernel_rfl)
def cartridge_Write_e (d : Nat) : Env [.v kCartridge, .v (.int .i64)] where
  τ := tyTab types
  n := 38
  Γ := tab [(44, ⟨[.v kCartridge, .v (.int .i64), .v (.slice kBlock)], [.v (.int .i64)], fun x => cartridge_writable d x.1 x.2.1 x.2.2⟩), (45, ⟨[.v kCartridge, .v (.slice kBlock)], [.v kCartridge], fun x => cartridge_with d x.1 x.2⟩), (46, ⟨[.v (.slice kBlock)], [.o 54 kBlock true], fun x => cartridge_copied d x⟩)]
  res := [.cell 6 26, .tmp 7]
  loopN := tab []
  loopR := tab []
  join := tab []
  loopX := tab []
  unroll := tab []
theorem cartridge_Write_G (d : Nat) : ∀ f sp, (cartridge_Write_e d).Γ f = some sp → SpecOK Try.prog f sp := tab_all (all_mem ⟨cartridge_writable_ok d, cartridge_with_ok d, cartridge_copied_ok d, trivial⟩)
theorem cartridge_Write_ok (d : Nat) : SpecOK Try.prog 21 ⟨[.v kCartridge, .v (.int .i64), .v (.slice kBlock)], [.v kCartridge, .v (.int .i64)], fun x => cartridge_Write d x.1 x.2.1 x.2.2⟩ :=
  fn_ok (e := cartridge_Write_e d) (c := bodyOf Try.f21) Try.func21 (by kernel_rfl) (by decide +kernel) mixed tau_ok (cartridge_Write_G d) rfl (by decide) (by decide) (by kernel_rfl) rfl (by decide) (fun C hC => loops_of (l := []) (by kernel_rfl) (all_mem trivial)) (fun x => by kernel_rfl)
def cartridge_Read_1_e (d : Nat) : Env [.v .bool] where
  τ := tyTab types
  n := 5
  Γ := tab []
  res := [.tmp 2]
  loopN := tab []
  loopR := tab []
  join := tab []
  loopX := tab []
  unroll := tab []
theorem cartridge_Read_1_G (d : Nat) : ∀ f sp, (cartridge_Read_1_e d).Γ f = some sp → SpecOK Try.prog f sp := tab_all (all_mem trivial)
theorem cartridge_Read_1_ok (d : Nat) : SpecOK Try.prog 48 ⟨[.v kBlock], [.v .bool], fun x => cartridge_Read_1 d x⟩ :=
  fn_ok (e := cartridge_Read_1_e d) (c := bodyOf Try.f48) Try.func48 (by kernel_rfl) (by decide +kernel) mixed tau_ok (cartridge_Read_1_G d) rfl (by decide) (by decide) (by kernel_rfl) rfl (by decide) (fun C hC => loops_of (l := []) (by kernel_rfl) (all_mem trivial)) (fun x => by kernel_rfl)
def slices_IndexFunc_api_Block_cartridge_Read_1_e (d : Nat) : Env [.v (.int .i64)] where
  τ := tyTab types
  n := 19
  Γ := tab [(48, ⟨[.v kBlock], [.v .bool], fun x => cartridge_Read_1 d x⟩)]
  res := [.tmp 4]
  loopN := tab []
  loopR := tab [(0, ⟨⟨[(0, .p (.slice kBlock)), (1, .fn 48 []), (7, .p (.int .i64)), (8, .p (.int .i64))], []⟩, ⟨[], []⟩, fun x => slices_IndexFunc_api_Block_cartridge_Read_1_l0 d d x.1 x.2.1 x.2.2⟩)]
  join := tab []
  loopX := tab []
  unroll := tab []
theorem slices_IndexFunc_api_Block_cartridge_Read_1_G (d : Nat) : ∀ f sp, (slices_IndexFunc_api_Block_cartridge_Read_1_e d).Γ f = some sp → SpecOK Try.prog f sp := tab_all (all_mem ⟨cartridge_Read_1_ok d, trivial⟩)
theorem slices_IndexFunc_api_Block_cartridge_Read_1_l0_ok (d : Nat) (C : Cx) (hC : (slices_IndexFunc_api_Block_cartridge_Read_1_e d).n = C.n) : ∀ k, LoopR Try.prog C (slices_IndexFunc_api_Block_cartridge_Read_1_e d) (loopAt (bodyOf Try.f47) 0) 0 ⟨⟨[(0, .p (.slice kBlock)), (1, .fn 48 []), (7, .p (.int .i64)), (8, .p (.int .i64))], []⟩, ⟨[], []⟩, fun x => slices_IndexFunc_api_Block_cartridge_Read_1_l0 d k x.1 x.2.1 x.2.2⟩ :=
  loopR_ok (outs := [.v (.int .i64)]) ⟨[(0, .p (.slice kBlock)), (1, .fn 48 []), (7, .p (.int .i64)), (8, .p (.int .i64))], []⟩ ⟨[], []⟩ (fun k x => slices_IndexFunc_api_Block_cartridge_Read_1_l0 d k x.1 x.2.1 x.2.2) (fun _ => slices_IndexFunc_api_Block_cartridge_Read_1_e d) (fun _ => ⟨tau_ok, hC, slices_IndexFunc_api_Block_cartridge_Read_1_G d⟩) mixed (fun _ => loops_of (l := []) (by kernel_rfl) (all_mem trivial)) (fun _ => rfl) (fun _ => rfl) (fun _ => rfl) (fun k x => by kernel_rfl)
theorem slices_IndexFunc_api_Block_cartridge_Read_1_ok (d : Nat) : SpecOK Try.prog 47 ⟨[.v (.slice kBlock), .f 48 []], [.v (.int .i64)], fun x => slices_IndexFunc_api_Block_cartridge_Read_1 d x⟩ :=
  fn_ok (e := slices_IndexFunc_api_Block_cartridge_Read_1_e d) (c := bodyOf Try.f47) Try.func47 (by kernel_rfl) (by decide +kernel) mixed tau_ok (slices_IndexFunc_api_Block_cartridge_Read_1_G d) rfl (by decide) (by decide) (by kernel_rfl) rfl (by decide) (fun C hC => loops_of (l := [(0, loopAt (bodyOf Try.f47) 0)]) (by kernel_rfl) (all_mem ⟨⟨tab_none rfl, tab_none rfl, tab_one rfl (slices_IndexFunc_api_Block_cartridge_Read_1_l0_ok d C hC d), tab_none rfl⟩, trivial⟩)) (fun x => by kernel_rfl)
def cartridge_Read_e (d : Nat) : Env [.v (.slice kBlock), .v (.int .i64)] where
  τ := tyTab types
  n := 65
  Γ := tab [(14, ⟨[.v kCartridge], [.v .bool], fun x => cartridge_Valid d x⟩), (46, ⟨[.v (.slice kBlock)], [.o 54 kBlock true], fun x => cartridge_copied d x⟩), (47, ⟨[.v (.slice kBlock), .f 48 []], [.v (.int .i64)], fun x => slices_IndexFunc_api_Block_cartridge_Read_1 d x⟩)]
  res := [.tmp 4, .tmp 5]
  loopN := tab []
  loopR := tab []
  join := tab [(9, ⟨[(2, .ad 2 0), (3, .ad 3 0)], [(2, .agg 26 kCartridge), (3, .agg 40 kSpan)]⟩)]
  loopX := tab []
  unroll := tab []
theorem cartridge_Read_G (d : Nat) : ∀ f sp, (cartridge_Read_e d).Γ f = some sp → SpecOK Try.prog f sp := tab_all (all_mem ⟨cartridge_Valid_ok d, cartridge_copied_ok d, slices_IndexFunc_api_Block_cartridge_Read_1_ok d, trivial⟩)
theorem cartridge_Read_ok (d : Nat) : SpecOK Try.prog 24 ⟨[.v kCartridge, .v kSpan], [.v (.slice kBlock), .v (.int .i64)], fun x => cartridge_Read d x.1 x.2⟩ :=
  fn_ok (e := cartridge_Read_e d) (c := bodyOf Try.f24) Try.func24 (by kernel_rfl) (by decide +kernel) mixed tau_ok (cartridge_Read_G d) rfl (by decide) (by decide) (by kernel_rfl) rfl (by decide) (fun C hC => loops_of (l := []) (by kernel_rfl) (all_mem trivial)) (fun x => by kernel_rfl)
def cartridge_Marks_e (d : Nat) : Env [.v (.int .i64), .v (.int .i64)] where
  τ := tyTab types
  n := 58
  Γ := tab [(14, ⟨[.v kCartridge], [.v .bool], fun x => cartridge_Valid d x⟩)]
  res := [.tmp 6, .tmp 7]
  loopN := tab []
  loopR := tab [(1, ⟨⟨[(1, .p (.int .i64)), (2, .p (.int .i64)), (35, .p (.slice kBlock)), (36, .p (.int .i64)), (37, .p (.int .i64))], []⟩, ⟨[], []⟩, fun x => cartridge_Marks_l1 d d x.1 x.2.1 x.2.2.1 x.2.2.2.1 x.2.2.2.2⟩)]
  join := tab [(7, ⟨[(1, .p (.int .i64)), (2, .p (.int .i64)), (3, .ad 3 0)], [(3, .agg 26 kCartridge)]⟩), (12, ⟨[(1, .p (.int .i64)), (2, .p (.int .i64)), (8, .p (.int .i64)), (35, .p (.slice kBlock)), (36, .p (.int .i64)), (37, .p (.int .i64))], []⟩)]
  loopX := tab []
  unroll := tab []
theorem cartridge_Marks_G (d : Nat) : ∀ f sp, (cartridge_Marks_e d).Γ f = some sp → SpecOK Try.prog f sp := tab_all (all_mem ⟨cartridge_Valid_ok d, trivial⟩)
theorem cartridge_Marks_l1_ok (d : Nat) (C : Cx) (hC : (cartridge_Marks_e d).n = C.n) : ∀ k, LoopR Try.prog C (cartridge_Marks_e d) (loopAt (bodyOf Try.f26) 0) 1 ⟨⟨[(1, .p (.int .i64)), (2, .p (.int .i64)), (35, .p (.slice kBlock)), (36, .p (.int .i64)), (37, .p (.int .i64))], []⟩, ⟨[], []⟩, fun x => cartridge_Marks_l1 d k x.1 x.2.1 x.2.2.1 x.2.2.2.1 x.2.2.2.2⟩ :=
  loopR_ok (outs := [.v (.int .i64), .v (.int .i64)]) ⟨[(1, .p (.int .i64)), (2, .p (.int .i64)), (35, .p (.slice kBlock)), (36, .p (.int .i64)), (37, .p (.int .i64))], []⟩ ⟨[], []⟩ (fun k x => cartridge_Marks_l1 d k x.1 x.2.1 x.2.2.1 x.2.2.2.1 x.2.2.2.2) (fun _ => cartridge_Marks_e d) (fun _ => ⟨tau_ok, hC, cartridge_Marks_G d⟩) mixed (fun _ => loops_of (l := []) (by kernel_rfl) (all_mem trivial)) (fun _ => rfl) (fun _ => rfl) (fun _ => rfl) (fun k x => by kernel_rfl)
theorem cartridge_Marks_ok (d : Nat) : SpecOK Try.prog 26 ⟨[.v kCartridge, .v (.int .i64), .v (.int .i64)], [.v (.int .i64), .v (.int .i64)], fun x => cartridge_Marks d x.1 x.2.1 x.2.2⟩ :=
  fn_ok (e := cartridge_Marks_e d) (c := bodyOf Try.f26) Try.func26 (by kernel_rfl) (by decide +kernel) mixed tau_ok (cartridge_Marks_G d) rfl (by decide) (by decide) (by kernel_rfl) rfl (by decide) (fun C hC => loops_of (l := [(1, loopAt (bodyOf Try.f26) 0)]) (by kernel_rfl) (all_mem ⟨⟨tab_none rfl, tab_none rfl, tab_one rfl (cartridge_Marks_l1_ok d C hC d), tab_none rfl⟩, trivial⟩)) (fun x => by kernel_rfl)
def cartridge_Erase_e (d : Nat) : Env [.v kCartridge, .v (.int .i64)] where
  τ := tyTab types
  n := 28
  Γ := tab [(14, ⟨[.v kCartridge], [.v .bool], fun x => cartridge_Valid d x⟩), (45, ⟨[.v kCartridge, .v (.slice kBlock)], [.v kCartridge], fun x => cartridge_with d x.1 x.2⟩)]
  res := [.cell 2 26, .tmp 3]
  loopN := tab []
  loopR := tab []
  join := tab [(7, ⟨[(1, .ad 1 0), (2, .ad 2 0)], [(1, .agg 26 kCartridge), (2, .agg 26 kCartridge)]⟩)]
  loopX := tab []
  unroll := tab []
theorem cartridge_Erase_G (d : Nat) : ∀ f sp, (cartridge_Erase_e d).Γ f = some sp → SpecOK Try.prog f sp := tab_all (all_mem ⟨cartridge_Valid_ok d, cartridge_with_ok d, trivial⟩)
theorem cartridge_Erase_ok (d : Nat) : SpecOK Try.prog 28 ⟨[.v kCartridge], [.v kCartridge, .v (.int .i64)], fun x => cartridge_Erase d x⟩ :=
  fn_ok (e := cartridge_Erase_e d) (c := bodyOf Try.f28) Try.func28 (by kernel_rfl) (by decide +kernel) mixed tau_ok (cartridge_Erase_G d) rfl (by decide) (by decide) (by kernel_rfl) rfl (by decide) (fun C hC => loops_of (l := []) (by kernel_rfl) (all_mem trivial)) (fun x => by kernel_rfl)
def tapearchivelaw10_awake_e (d : Nat) : Env [.v .bool] where
  τ := tyTab types
  n := 93
  Γ := tab [(12, ⟨[.v .str, .v kGeometry, .v .bool], [.v kCartridge, .v (.int .i64)], fun x => cartridge_New d x.1 x.2.1 x.2.2⟩), (14, ⟨[.v kCartridge], [.v .bool], fun x => cartridge_Valid d x⟩), (17, ⟨[.v kCartridge], [.v (.int .i64)], fun x => cartridge_Free d x⟩), (21, ⟨[.v kCartridge, .v (.int .i64), .v (.slice kBlock)], [.v kCartridge, .v (.int .i64)], fun x => cartridge_Write d x.1 x.2.1 x.2.2⟩), (24, ⟨[.v kCartridge, .v kSpan], [.v (.slice kBlock), .v (.int .i64)], fun x => cartridge_Read d x.1 x.2⟩), (26, ⟨[.v kCartridge, .v (.int .i64), .v (.int .i64)], [.v (.int .i64), .v (.int .i64)], fun x => cartridge_Marks d x.1 x.2.1 x.2.2⟩), (28, ⟨[.v kCartridge], [.v kCartridge, .v (.int .i64)], fun x => cartridge_Erase d x⟩)]
  res := [.tmp 0]
  loopN := tab []
  loopR := tab []
  join := tab []
  loopX := tab []
  unroll := tab []
theorem tapearchivelaw10_awake_G (d : Nat) : ∀ f sp, (tapearchivelaw10_awake_e d).Γ f = some sp → SpecOK Try.prog f sp := tab_all (all_mem ⟨cartridge_New_ok d, cartridge_Valid_ok d, cartridge_Free_ok d, cartridge_Write_ok d, cartridge_Read_ok d, cartridge_Marks_ok d, cartridge_Erase_ok d, trivial⟩)
theorem tapearchivelaw10_awake_ok (d : Nat) : SpecOK Try.prog 11 ⟨[], [.v .bool], fun x => tapearchivelaw10_awake d⟩ :=
  fn_ok (e := tapearchivelaw10_awake_e d) (c := bodyOf Try.f11) Try.func11 (by kernel_rfl) (by decide +kernel) mixed tau_ok (tapearchivelaw10_awake_G d) rfl (by decide) (by decide) (by kernel_rfl) rfl (by decide) (fun C hC => loops_of (l := []) (by kernel_rfl) (all_mem trivial)) (fun x => by kernel_rfl)
def tapearchiveref10_Barcode_e (d : Nat) : Env [.v .bool] where
  τ := tyTab types
  n := 41
  Γ := tab []
  res := [.tmp 2]
  loopN := tab []
  loopR := tab [(0, ⟨⟨[(0, .p .str), (3, .p (.int .i64))], []⟩, ⟨[(0, .p .str)], []⟩, fun x => tapearchiveref10_Barcode_l0 d d x.1 x.2⟩)]
  join := tab []
  loopX := tab []
  unroll := tab []
theorem tapearchiveref10_Barcode_G (d : Nat) : ∀ f sp, (tapearchiveref10_Barcode_e d).Γ f = some sp → SpecOK Try.prog f sp := tab_all (all_mem trivial)
theorem tapearchiveref10_Barcode_l0_ok (d : Nat) (C : Cx) (hC : (tapearchiveref10_Barcode_e d).n = C.n) : ∀ k, LoopR Try.prog C (tapearchiveref10_Barcode_e d) (loopAt (bodyOf Try.f34) 0) 0 ⟨⟨[(0, .p .str), (3, .p (.int .i64))], []⟩, ⟨[(0, .p .str)], []⟩, fun x => tapearchiveref10_Barcode_l0 d k x.1 x.2⟩ :=
  loopR_ok (outs := [.v .bool]) ⟨[(0, .p .str), (3, .p (.int .i64))], []⟩ ⟨[(0, .p .str)], []⟩ (fun k x => tapearchiveref10_Barcode_l0 d k x.1 x.2) (fun _ => tapearchiveref10_Barcode_e d) (fun _ => ⟨tau_ok, hC, tapearchiveref10_Barcode_G d⟩) mixed (fun _ => loops_of (l := []) (by kernel_rfl) (all_mem trivial)) (fun _ => rfl) (fun _ => rfl) (fun _ => rfl) (fun k x => by kernel_rfl)
theorem tapearchiveref10_Barcode_ok (d : Nat) : SpecOK Try.prog 34 ⟨[.v .str], [.v .bool], fun x => tapearchiveref10_Barcode d x⟩ :=
  fn_ok (e := tapearchiveref10_Barcode_e d) (c := bodyOf Try.f34) Try.func34 (by kernel_rfl) (by decide +kernel) mixed tau_ok (tapearchiveref10_Barcode_G d) rfl (by decide) (by decide) (by kernel_rfl) rfl (by decide) (fun C hC => loops_of (l := [(0, loopAt (bodyOf Try.f34) 0)]) (by kernel_rfl) (all_mem ⟨⟨tab_none rfl, tab_none rfl, tab_one rfl (tapearchiveref10_Barcode_l0_ok d C hC d), tab_none rfl⟩, trivial⟩)) (fun x => by kernel_rfl)
def tapearchiveref09_time_e (d : Nat) : Env [.v .bool] where
  τ := tyTab types
  n := 9
  Γ := tab []
  res := [.tmp 2]
  loopN := tab []
  loopR := tab []
  join := tab []
  loopX := tab []
  unroll := tab []
theorem tapearchiveref09_time_G (d : Nat) : ∀ f sp, (tapearchiveref09_time_e d).Γ f = some sp → SpecOK Try.prog f sp := tab_all (all_mem trivial)
theorem tapearchiveref09_time_ok (d : Nat) : SpecOK Try.prog 50 ⟨[.v (.int .i64)], [.v .bool], fun x => tapearchiveref09_time d x⟩ :=
  fn_ok (e := tapearchiveref09_time_e d) (c := bodyOf Try.f50) Try.func50 (by kernel_rfl) (by decide +kernel) mixed tau_ok (tapearchiveref09_time_G d) rfl (by decide) (by decide) (by kernel_rfl) rfl (by decide) (fun C hC => loops_of (l := []) (by kernel_rfl) (all_mem trivial)) (fun x => by kernel_rfl)
def tapearchiveref09_Valid_e (d : Nat) : Env [.v .bool] where
  τ := tyTab types
  n := 47
  Γ := tab [(50, ⟨[.v (.int .i64)], [.v .bool], fun x => tapearchiveref09_time d x⟩)]
  res := [.tmp 2]
  loopN := tab []
  loopR := tab []
  join := tab [(3, ⟨[(1, .ad 1 0)], [(1, .agg 23 kGeometry)]⟩)]
  loopX := tab []
  unroll := tab []
theorem tapearchiveref09_Valid_G (d : Nat) : ∀ f sp, (tapearchiveref09_Valid_e d).Γ f = some sp → SpecOK Try.prog f sp := tab_all (all_mem ⟨tapearchiveref09_time_ok d, trivial⟩)
theorem tapearchiveref09_Valid_ok (d : Nat) : SpecOK Try.prog 35 ⟨[.v kGeometry], [.v .bool], fun x => tapearchiveref09_Valid d x⟩ :=
  fn_ok (e := tapearchiveref09_Valid_e d) (c := bodyOf Try.f35) Try.func35 (by kernel_rfl) (by decide +kernel) mixed tau_ok (tapearchiveref09_Valid_G d) rfl (by decide) (by decide) (by kernel_rfl) rfl (by decide) (fun C hC => loops_of (l := []) (by kernel_rfl) (all_mem trivial)) (fun x => by kernel_rfl)
def tapearchiveref10_New_e (d : Nat) : Env [.v kCartridge, .v (.int .i64)] where
  τ := tyTab types
  n := 20
  Γ := tab [(34, ⟨[.v .str], [.v .bool], fun x => tapearchiveref10_Barcode d x⟩), (35, ⟨[.v kGeometry], [.v .bool], fun x => tapearchiveref09_Valid d x⟩)]
  res := [.cell 6 26, .tmp 7]
  loopN := tab []
  loopR := tab []
  join := tab []
  loopX := tab []
  unroll := tab []
theorem tapearchiveref10_New_G (d : Nat) : ∀ f sp, (tapearchiveref10_New_e d).Γ f = some sp → SpecOK Try.prog f sp := tab_all (all_mem ⟨tapearchiveref10_Barcode_ok d, tapearchiveref09_Valid_ok d, trivial⟩)
theorem tapearchiveref10_New_ok (d : Nat) : SpecOK Try.prog 13 ⟨[.v .str, .v kGeometry, .v .bool], [.v kCartridge, .v (.int .i64)], fun x => tapearchiveref10_New d x.1 x.2.1 x.2.2⟩ :=
  fn_ok (e := tapearchiveref10_New_e d) (c := bodyOf Try.f13) Try.func13 (by kernel_rfl) (by decide +kernel) mixed tau_ok (tapearchiveref10_New_G d) rfl (by decide) (by decide) (by kernel_rfl) rfl (by decide) (fun C hC => loops_of (l := []) (by kernel_rfl) (all_mem trivial)) (fun x => by kernel_rfl)
def tapearchiveref09_Capacity_e (d : Nat) : Env [.v (.int .i64)] where
  τ := tyTab types
  n := 11
  Γ := tab [(35, ⟨[.v kGeometry], [.v .bool], fun x => tapearchiveref09_Valid d x⟩)]
  res := [.tmp 2]
  loopN := tab []
  loopR := tab []
  join := tab []
  loopX := tab []
  unroll := tab []
theorem tapearchiveref09_Capacity_G (d : Nat) : ∀ f sp, (tapearchiveref09_Capacity_e d).Γ f = some sp → SpecOK Try.prog f sp := tab_all (all_mem ⟨tapearchiveref09_Valid_ok d, trivial⟩)
theorem tapearchiveref09_Capacity_ok (d : Nat) : SpecOK Try.prog 41 ⟨[.v kGeometry], [.v (.int .i64)], fun x => tapearchiveref09_Capacity d x⟩ :=
  fn_ok (e := tapearchiveref09_Capacity_e d) (c := bodyOf Try.f41) Try.func41 (by kernel_rfl) (by decide +kernel) mixed tau_ok (tapearchiveref09_Capacity_G d) rfl (by decide) (by decide) (by kernel_rfl) rfl (by decide) (fun C hC => loops_of (l := []) (by kernel_rfl) (all_mem trivial)) (fun x => by kernel_rfl)
def tapearchiveref10_block_e (d : Nat) : Env [.v .bool] where
  τ := tyTab types
  n := 19
  Γ := tab []
  res := [.tmp 2]
  loopN := tab []
  loopR := tab []
  join := tab []
  loopX := tab []
  unroll := tab []
theorem tapearchiveref10_block_G (d : Nat) : ∀ f sp, (tapearchiveref10_block_e d).Γ f = some sp → SpecOK Try.prog f sp := tab_all (all_mem trivial)
theorem tapearchiveref10_block_ok (d : Nat) : SpecOK Try.prog 42 ⟨[.v kBlock], [.v .bool], fun x => tapearchiveref10_block d x⟩ :=
  fn_ok (e := tapearchiveref10_block_e d) (c := bodyOf Try.f42) Try.func42 (by kernel_rfl) (by decide +kernel) mixed tau_ok (tapearchiveref10_block_G d) rfl (by decide) (by decide) (by kernel_rfl) rfl (by decide) (fun C hC => loops_of (l := []) (by kernel_rfl) (all_mem trivial)) (fun x => by kernel_rfl)
def tapearchiveref10_count_e (d : Nat) : Env [.v .bool] where
  τ := tyTab types
  n := 9
  Γ := tab []
  res := [.tmp 2]
  loopN := tab []
  loopR := tab []
  join := tab []
  loopX := tab []
  unroll := tab []
theorem tapearchiveref10_count_G (d : Nat) : ∀ f sp, (tapearchiveref10_count_e d).Γ f = some sp → SpecOK Try.prog f sp := tab_all (all_mem trivial)
theorem tapearchiveref10_count_ok (d : Nat) : SpecOK Try.prog 43 ⟨[.v (.int .i64)], [.v .bool], fun x => tapearchiveref10_count d x⟩ :=
  fn_ok (e := tapearchiveref10_count_e d) (c := bodyOf Try.f43) Try.func43 (by kernel_rfl) (by decide +kernel) mixed tau_ok (tapearchiveref10_count_G d) rfl (by decide) (by decide) (by kernel_rfl) rfl (by decide) (fun C hC => loops_of (l := []) (by kernel_rfl) (all_mem trivial)) (fun x => by kernel_rfl)
def tapearchiveref10_Valid_e (d : Nat) : Env [.v .bool] where
  τ := tyTab types
  n := 50
  Γ := tab [(34, ⟨[.v .str], [.v .bool], fun x => tapearchiveref10_Barcode d x⟩), (35, ⟨[.v kGeometry], [.v .bool], fun x => tapearchiveref09_Valid d x⟩), (41, ⟨[.v kGeometry], [.v (.int .i64)], fun x => tapearchiveref09_Capacity d x⟩), (42, ⟨[.v kBlock], [.v .bool], fun x => tapearchiveref10_block d x⟩), (43, ⟨[.v (.int .i64)], [.v .bool], fun x => tapearchiveref10_count d x⟩)]
  res := [.tmp 2]
  loopN := tab []
  loopR := tab [(0, ⟨⟨[(1, .ad 1 0), (3, .p (.int .i64))], [(1, .agg 26 kCartridge)]⟩, ⟨[(1, .ad 1 0)], [(1, .agg 26 kCartridge)]⟩, fun x => tapearchiveref10_Valid_l0 d d x.1 x.2⟩)]
  join := tab [(3, ⟨[(1, .ad 1 0)], [(1, .agg 26 kCartridge)]⟩)]
  loopX := tab []
  unroll := tab []
theorem tapearchiveref10_Valid_G (d : Nat) : ∀ f sp, (tapearchiveref10_Valid_e d).Γ f = some sp → SpecOK Try.prog f sp := tab_all (all_mem ⟨tapearchiveref10_Barcode_ok d, tapearchiveref09_Valid_ok d, tapearchiveref09_Capacity_ok d, tapearchiveref10_block_ok d, tapearchiveref10_count_ok d, trivial⟩)
theorem tapearchiveref10_Valid_l0_ok (d : Nat) (C : Cx) (hC : (tapearchiveref10_Valid_e d).n = C.n) : ∀ k, LoopR Try.prog C (tapearchiveref10_Valid_e d) (loopAt (bodyOf Try.f15) 0) 0 ⟨⟨[(1, .ad 1 0), (3, .p (.int .i64))], [(1, .agg 26 kCartridge)]⟩, ⟨[(1, .ad 1 0)], [(1, .agg 26 kCartridge)]⟩, fun x => tapearchiveref10_Valid_l0 d k x.1 x.2⟩ :=
  loopR_ok (outs := [.v .bool]) ⟨[(1, .ad 1 0), (3, .p (.int .i64))], [(1, .agg 26 kCartridge)]⟩ ⟨[(1, .ad 1 0)], [(1, .agg 26 kCartridge)]⟩ (fun k x => tapearchiveref10_Valid_l0 d k x.1 x.2) (fun _ => tapearchiveref10_Valid_e d) (fun _ => ⟨tau_ok, hC, tapearchiveref10_Valid_G d⟩) mixed (fun _ => loops_of (l := []) (by kernel_rfl) (all_mem trivial)) (fun _ => rfl) (fun _ => rfl) (fun _ => rfl) (fun k x => by kernel_rfl)
theorem tapearchiveref10_Valid_ok (d : Nat) : SpecOK Try.prog 15 ⟨[.v kCartridge], [.v .bool], fun x => tapearchiveref10_Valid d x⟩ :=
  fn_ok (e := tapearchiveref10_Valid_e d) (c := bodyOf Try.f15) Try.func15 (by kernel_rfl) (by decide +kernel) mixed tau_ok (tapearchiveref10_Valid_G d) rfl (by decide) (by decide) (by kernel_rfl) rfl (by decide) (fun C hC => loops_of (l := [(0, loopAt (bodyOf Try.f15) 0)]) (by kernel_rfl) (all_mem ⟨⟨tab_none rfl, tab_none rfl, tab_one rfl (tapearchiveref10_Valid_l0_ok d C hC d), tab_none rfl⟩, trivial⟩)) (fun x => by kernel_rfl)
def tapearchiveref10_SameBlocks_e (d : Nat) : Env [.v .bool] where
  τ := tyTab types
  n := 56
  Γ := tab []
  res := [.tmp 4]
  loopN := tab []
  loopR := tab [(0, ⟨⟨[(0, .p (.slice kBlock)), (1, .p (.slice kBlock)), (5, .p (.int .i64))], []⟩, ⟨[], []⟩, fun x => tapearchiveref10_SameBlocks_l0 d d x.1 x.2.1 x.2.2⟩)]
  join := tab []
  loopX := tab []
  unroll := tab []
theorem tapearchiveref10_SameBlocks_G (d : Nat) : ∀ f sp, (tapearchiveref10_SameBlocks_e d).Γ f = some sp → SpecOK Try.prog f sp := tab_all (all_mem trivial)
theorem tapearchiveref10_SameBlocks_l0_ok (d : Nat) (C : Cx) (hC : (tapearchiveref10_SameBlocks_e d).n = C.n) : ∀ k, LoopR Try.prog C (tapearchiveref10_SameBlocks_e d) (loopAt (bodyOf Try.f23) 0) 0 ⟨⟨[(0, .p (.slice kBlock)), (1, .p (.slice kBlock)), (5, .p (.int .i64))], []⟩, ⟨[], []⟩, fun x => tapearchiveref10_SameBlocks_l0 d k x.1 x.2.1 x.2.2⟩ :=
  loopR_ok (outs := [.v .bool]) ⟨[(0, .p (.slice kBlock)), (1, .p (.slice kBlock)), (5, .p (.int .i64))], []⟩ ⟨[], []⟩ (fun k x => tapearchiveref10_SameBlocks_l0 d k x.1 x.2.1 x.2.2) (fun _ => tapearchiveref10_SameBlocks_e d) (fun _ => ⟨tau_ok, hC, tapearchiveref10_SameBlocks_G d⟩) mixed (fun _ => loops_of (l := []) (by kernel_rfl) (all_mem trivial)) (fun _ => rfl) (fun _ => rfl) (fun _ => rfl) (fun k x => by kernel_rfl)
theorem tapearchiveref10_SameBlocks_ok (d : Nat) : SpecOK Try.prog 23 ⟨[.v (.slice kBlock), .v (.slice kBlock)], [.v .bool], fun x => tapearchiveref10_SameBlocks d x.1 x.2⟩ :=
  fn_ok (e := tapearchiveref10_SameBlocks_e d) (c := bodyOf Try.f23) Try.func23 (by kernel_rfl) (by decide +kernel) mixed tau_ok (tapearchiveref10_SameBlocks_G d) rfl (by decide) (by decide) (by kernel_rfl) rfl (by decide) (fun C hC => loops_of (l := [(0, loopAt (bodyOf Try.f23) 0)]) (by kernel_rfl) (all_mem ⟨⟨tab_none rfl, tab_none rfl, tab_one rfl (tapearchiveref10_SameBlocks_l0_ok d C hC d), tab_none rfl⟩, trivial⟩)) (fun x => by kernel_rfl)
def tapearchiveref10_Same_e (d : Nat) : Env [.v .bool] where
  τ := tyTab types
  n := 59
  Γ := tab [(23, ⟨[.v (.slice kBlock), .v (.slice kBlock)], [.v .bool], fun x => tapearchiveref10_SameBlocks d x.1 x.2⟩)]
  res := [.tmp 4]
  loopN := tab []
  loopR := tab []
  join := tab []
  loopX := tab []
  unroll := tab []
theorem tapearchiveref10_Same_G (d : Nat) : ∀ f sp, (tapearchiveref10_Same_e d).Γ f = some sp → SpecOK Try.prog f sp := tab_all (all_mem ⟨tapearchiveref10_SameBlocks_ok d, trivial⟩)
theorem tapearchiveref10_Same_ok (d : Nat) : SpecOK Try.prog 16 ⟨[.v kCartridge, .v kCartridge], [.v .bool], fun x => tapearchiveref10_Same d x.1 x.2⟩ :=
  fn_ok (e := tapearchiveref10_Same_e d) (c := bodyOf Try.f16) Try.func16 (by kernel_rfl) (by decide +kernel) mixed tau_ok (tapearchiveref10_Same_G d) rfl (by decide) (by decide) (by kernel_rfl) rfl (by decide) (fun C hC => loops_of (l := []) (by kernel_rfl) (all_mem trivial)) (fun x => by kernel_rfl)
def tapearchiveref10_Free_e (d : Nat) : Env [.v (.int .i64)] where
  τ := tyTab types
  n := 17
  Γ := tab [(15, ⟨[.v kCartridge], [.v .bool], fun x => tapearchiveref10_Valid d x⟩), (41, ⟨[.v kGeometry], [.v (.int .i64)], fun x => tapearchiveref09_Capacity d x⟩)]
  res := [.tmp 2]
  loopN := tab []
  loopR := tab []
  join := tab [(3, ⟨[(1, .ad 1 0)], [(1, .agg 26 kCartridge)]⟩)]
  loopX := tab []
  unroll := tab []
theorem tapearchiveref10_Free_G (d : Nat) : ∀ f sp, (tapearchiveref10_Free_e d).Γ f = some sp → SpecOK Try.prog f sp := tab_all (all_mem ⟨tapearchiveref10_Valid_ok d, tapearchiveref09_Capacity_ok d, trivial⟩)
theorem tapearchiveref10_Free_ok (d : Nat) : SpecOK Try.prog 18 ⟨[.v kCartridge], [.v (.int .i64)], fun x => tapearchiveref10_Free d x⟩ :=
  fn_ok (e := tapearchiveref10_Free_e d) (c := bodyOf Try.f18) Try.func18 (by kernel_rfl) (by decide +kernel) mixed tau_ok (tapearchiveref10_Free_G d) rfl (by decide) (by decide) (by kernel_rfl) rfl (by decide) (fun C hC => loops_of (l := []) (by kernel_rfl) (all_mem trivial)) (fun x => by kernel_rfl)
def tapearchivelaw10_CartridgeNew_e (d : Nat) : Env [.v .bool] where
  τ := tyTab types
  n := 56
  Γ := tab [(10, ⟨[.v kCartridge], [.v .bool], fun x => tapearchivelaw10_light d x⟩), (11, ⟨[], [.v .bool], fun x => tapearchivelaw10_awake d⟩), (12, ⟨[.v .str, .v kGeometry, .v .bool], [.v kCartridge, .v (.int .i64)], fun x => cartridge_New d x.1 x.2.1 x.2.2⟩), (13, ⟨[.v .str, .v kGeometry, .v .bool], [.v kCartridge, .v (.int .i64)], fun x => tapearchiveref10_New d x.1 x.2.1 x.2.2⟩), (14, ⟨[.v kCartridge], [.v .bool], fun x => cartridge_Valid d x⟩), (15, ⟨[.v kCartridge], [.v .bool], fun x => tapearchiveref10_Valid d x⟩), (16, ⟨[.v kCartridge, .v kCartridge], [.v .bool], fun x => tapearchiveref10_Same d x.1 x.2⟩), (17, ⟨[.v kCartridge], [.v (.int .i64)], fun x => cartridge_Free d x⟩), (18, ⟨[.v kCartridge], [.v (.int .i64)], fun x => tapearchiveref10_Free d x⟩)]
  res := [.tmp 2]
  loopN := tab []
  loopR := tab []
  join := tab []
  loopX := tab []
  unroll := tab []
theorem tapearchivelaw10_CartridgeNew_G (d : Nat) : ∀ f sp, (tapearchivelaw10_CartridgeNew_e d).Γ f = some sp → SpecOK Try.prog f sp := tab_all (all_mem ⟨tapearchivelaw10_light_ok d, tapearchivelaw10_awake_ok d, cartridge_New_ok d, tapearchiveref10_New_ok d, cartridge_Valid_ok d, tapearchiveref10_Valid_ok d, tapearchiveref10_Same_ok d, cartridge_Free_ok d, tapearchiveref10_Free_ok d, trivial⟩)
theorem tapearchivelaw10_CartridgeNew_ok (d : Nat) : SpecOK Try.prog 3 ⟨[.v kCartridge], [.v .bool], fun x => tapearchivelaw10_CartridgeNew d x⟩ :=
  fn_ok (e := tapearchivelaw10_CartridgeNew_e d) (c := bodyOf Try.f3) Try.func3 (by kernel_rfl) (by decide +kernel) mixed tau_ok (tapearchivelaw10_CartridgeNew_G d) rfl (by decide) (by decide) (by kernel_rfl) rfl (by decide) (fun C hC => loops_of (l := []) (by kernel_rfl) (all_mem trivial)) (fun x => by kernel_rfl)
def tapearchiveref10_Copied_e (d : Nat) : Env [.o 54 kBlock false] where
  τ := tyTab types
  n := 29
  Γ := tab []
  res := [.tmp 2]
  loopN := tab [(0, ⟨⟨[(0, .p (.slice kBlock)), (3, .slw 2000001 false), (4, .p (.int .i64))], [(2000001, .list 54 kBlock)]⟩, ⟨[(3, .slw 2000001 false)], [(2000001, .list 54 kBlock)]⟩, fun x => tapearchiveref10_Copied_l0 d d x.1 x.2.1 x.2.2⟩)]
  loopR := tab []
  join := tab []
  loopX := tab []
  unroll := tab []
theorem tapearchiveref10_Copied_G (d : Nat) : ∀ f sp, (tapearchiveref10_Copied_e d).Γ f = some sp → SpecOK Try.prog f sp := tab_all (all_mem trivial)
theorem tapearchiveref10_Copied_l0_ok (d : Nat) (C : Cx) (hC : (tapearchiveref10_Copied_e d).n = C.n) : ∀ k, LoopN Try.prog C (loopAt (bodyOf Try.f20) 0) 0 ⟨⟨[(0, .p (.slice kBlock)), (3, .slw 2000001 false), (4, .p (.int .i64))], [(2000001, .list 54 kBlock)]⟩, ⟨[(3, .slw 2000001 false)], [(2000001, .list 54 kBlock)]⟩, fun x => tapearchiveref10_Copied_l0 d k x.1 x.2.1 x.2.2⟩ :=
  loopN_ok (outs := [.o 54 kBlock false]) ⟨[(0, .p (.slice kBlock)), (3, .slw 2000001 false), (4, .p (.int .i64))], [(2000001, .list 54 kBlock)]⟩ ⟨[(3, .slw 2000001 false)], [(2000001, .list 54 kBlock)]⟩ (fun k x => tapearchiveref10_Copied_l0 d k x.1 x.2.1 x.2.2) (fun _ => tapearchiveref10_Copied_e d) (fun _ => ⟨tau_ok, hC, tapearchiveref10_Copied_G d⟩) mixed (fun _ => loops_of (l := []) (by kernel_rfl) (all_mem trivial)) (fun _ => rfl) (fun k x => by kernel_rfl)
theorem tapearchiveref10_Copied_ok (d : Nat) : SpecOK Try.prog 20 ⟨[.v (.slice kBlock)], [.o 54 kBlock false], fun x => tapearchiveref10_Copied d x⟩ :=
  fn_ok (e := tapearchiveref10_Copied_e d) (c := bodyOf Try.f20) Try.func20 (by kernel_rfl) (by decide +kernel) mixed tau_ok (tapearchiveref10_Copied_G d) rfl (by decide) (by decide) (by kernel_rfl) rfl (by decide) (fun C hC => loops_of (l := [(0, loopAt (bodyOf Try.f20) 0)]) (by kernel_rfl) (all_mem ⟨⟨tab_none rfl, tab_one rfl (tapearchiveref10_Copied_l0_ok d C hC d), tab_none rfl, tab_none rfl⟩, trivial⟩)) (fun x => by kernel_rfl)
def tapearchiveref10_Write_e (d : Nat) : Env [.v kCartridge, .v (.int .i64)] where
  τ := tyTab types
  n := 82
  Γ := tab [(15, ⟨[.v kCartridge], [.v .bool], fun x => tapearchiveref10_Valid d x⟩), (20, ⟨[.v (.slice kBlock)], [.o 54 kBlock false], fun x => tapearchiveref10_Copied d x⟩), (41, ⟨[.v kGeometry], [.v (.int .i64)], fun x => tapearchiveref09_Capacity d x⟩), (42, ⟨[.v kBlock], [.v .bool], fun x => tapearchiveref10_block d x⟩)]
  res := [.cell 6 26, .tmp 7]
  loopN := tab []
  loopR := tab [(0, ⟨⟨[(1, .p (.int .i64)), (2, .p (.slice kBlock)), (3, .ad 3 0), (6, .ad 6 0), (8, .p (.int .i64))], [(3, .agg 26 kCartridge), (6, .agg 26 kCartridge)]⟩, ⟨[(1, .p (.int .i64)), (2, .p (.slice kBlock)), (3, .ad 3 0), (6, .ad 6 0)], [(3, .agg 26 kCartridge), (6, .agg 26 kCartridge)]⟩, fun x => tapearchiveref10_Write_l0 d d x.1 x.2.1 x.2.2.1 x.2.2.2.1 x.2.2.2.2⟩)]
  join := tab [(12, ⟨[(1, .p (.int .i64)), (2, .p (.slice kBlock)), (3, .ad 3 0), (6, .ad 6 0)], [(3, .agg 26 kCartridge), (6, .agg 26 kCartridge)]⟩), (14, ⟨[(1, .p (.int .i64)), (2, .p (.slice kBlock)), (3, .ad 3 0), (6, .ad 6 0)], [(3, .agg 26 kCartridge), (6, .agg 26 kCartridge)]⟩), (20, ⟨[(3, .ad 3 0), (6, .ad 6 0), (9, .slw 1001088 false)], [(3, .agg 26 kCartridge), (6, .agg 26 kCartridge), (1001088, .list 54 kBlock)]⟩)]
  loopX := tab []
  unroll := tab []
theorem tapearchiveref10_Write_G (d : Nat) : ∀ f sp, (tapearchiveref10_Write_e d).Γ f = some sp → SpecOK Try.prog f sp := tab_all (all_mem ⟨tapearchiveref10_Valid_ok d, tapearchiveref10_Copied_ok d, tapearchiveref09_Capacity_ok d, tapearchiveref10_block_ok d, trivial⟩)
theorem tapearchiveref10_Write_l0_ok (d : Nat) (C : Cx) (hC : (tapearchiveref10_Write_e d).n = C.n) : ∀ k, LoopR Try.prog C (tapearchiveref10_Write_e d) (loopAt (bodyOf Try.f22) 0) 0 ⟨⟨[(1, .p (.int .i64)), (2, .p (.slice kBlock)), (3, .ad 3 0), (6, .ad 6 0), (8, .p (.int .i64))], [(3, .agg 26 kCartridge), (6, .agg 26 kCartridge)]⟩, ⟨[(1, .p (.int .i64)), (2, .p (.slice kBlock)), (3, .ad 3 0), (6, .ad 6 0)], [(3, .agg 26 kCartridge), (6, .agg 26 kCartridge)]⟩, fun x => tapearchiveref10_Write_l0 d k x.1 x.2.1 x.2.2.1 x.2.2.2.1 x.2.2.2.2⟩ :=
  loopR_ok (outs := [.v kCartridge, .v (.int .i64)]) ⟨[(1, .p (.int .i64)), (2, .p (.slice kBlock)), (3, .ad 3 0), (6, .ad 6 0), (8, .p (.int .i64))], [(3, .agg 26 kCartridge), (6, .agg 26 kCartridge)]⟩ ⟨[(1, .p (.int .i64)), (2, .p (.slice kBlock)), (3, .ad 3 0), (6, .ad 6 0)], [(3, .agg 26 kCartridge), (6, .agg 26 kCartridge)]⟩ (fun k x => tapearchiveref10_Write_l0 d k x.1 x.2.1 x.2.2.1 x.2.2.2.1 x.2.2.2.2) (fun _ => tapearchiveref10_Write_e d) (fun _ => ⟨tau_ok, hC, tapearchiveref10_Write_G d⟩) mixed (fun _ => loops_of (l := []) (by kernel_rfl) (all_mem trivial)) (fun _ => rfl) (fun _ => rfl) (fun _ => rfl) (fun k x => by kernel_rfl)
theorem tapearchiveref10_Write_ok (d : Nat) : SpecOK Try.prog 22 ⟨[.v kCartridge, .v (.int .i64), .v (.slice kBlock)], [.v kCartridge, .v (.int .i64)], fun x => tapearchiveref10_Write d x.1 x.2.1 x.2.2⟩ :=
  fn_ok (e := tapearchiveref10_Write_e d) (c := bodyOf Try.f22) Try.func22 (by kernel_rfl) (by decide +kernel) mixed tau_ok (tapearchiveref10_Write_G d) rfl (by decide) (by decide) (by kernel_rfl) rfl (by decide) (fun C hC => loops_of (l := [(0, loopAt (bodyOf Try.f22) 0)]) (by kernel_rfl) (all_mem ⟨⟨tab_none rfl, tab_none rfl, tab_one rfl (tapearchiveref10_Write_l0_ok d C hC d), tab_none rfl⟩, trivial⟩)) (fun x => by kernel_rfl)
def tapearchivelaw10_CartridgeWrites_e (d : Nat) : Env [.v .bool] where
  τ := tyTab types
  n := 55
  Γ := tab [(10, ⟨[.v kCartridge], [.v .bool], fun x => tapearchivelaw10_light d x⟩), (11, ⟨[], [.v .bool], fun x => tapearchivelaw10_awake d⟩), (16, ⟨[.v kCartridge, .v kCartridge], [.v .bool], fun x => tapearchiveref10_Same d x.1 x.2⟩), (19, ⟨[.v (.slice kBlock)], [.v .bool], fun x => tapearchivelaw10_lightBlocks d x⟩), (20, ⟨[.v (.slice kBlock)], [.o 54 kBlock false], fun x => tapearchiveref10_Copied d x⟩), (21, ⟨[.v kCartridge, .v (.int .i64), .v (.slice kBlock)], [.v kCartridge, .v (.int .i64)], fun x => cartridge_Write d x.1 x.2.1 x.2.2⟩), (22, ⟨[.v kCartridge, .v (.int .i64), .v (.slice kBlock)], [.v kCartridge, .v (.int .i64)], fun x => tapearchiveref10_Write d x.1 x.2.1 x.2.2⟩), (23, ⟨[.v (.slice kBlock), .v (.slice kBlock)], [.v .bool], fun x => tapearchiveref10_SameBlocks d x.1 x.2⟩)]
  res := [.tmp 6]
  loopN := tab []
  loopR := tab []
  join := tab [(3, ⟨[(1, .p (.int .i64)), (2, .p (.slice kBlock)), (3, .ad 3 0)], [(3, .agg 26 kCartridge)]⟩)]
  loopX := tab []
  unroll := tab []
theorem tapearchivelaw10_CartridgeWrites_G (d : Nat) : ∀ f sp, (tapearchivelaw10_CartridgeWrites_e d).Γ f = some sp → SpecOK Try.prog f sp := tab_all (all_mem ⟨tapearchivelaw10_light_ok d, tapearchivelaw10_awake_ok d, tapearchiveref10_Same_ok d, tapearchivelaw10_lightBlocks_ok d, tapearchiveref10_Copied_ok d, cartridge_Write_ok d, tapearchiveref10_Write_ok d, tapearchiveref10_SameBlocks_ok d, trivial⟩)
theorem tapearchivelaw10_CartridgeWrites_ok (d : Nat) : SpecOK Try.prog 4 ⟨[.v kCartridge, .v (.int .i64), .v (.slice kBlock)], [.v .bool], fun x => tapearchivelaw10_CartridgeWrites d x.1 x.2.1 x.2.2⟩ :=
  fn_ok (e := tapearchivelaw10_CartridgeWrites_e d) (c := bodyOf Try.f4) Try.func4 (by kernel_rfl) (by decide +kernel) mixed tau_ok (tapearchivelaw10_CartridgeWrites_G d) rfl (by decide) (by decide) (by kernel_rfl) rfl (by decide) (fun C hC => loops_of (l := []) (by kernel_rfl) (all_mem trivial)) (fun x => by kernel_rfl)
def tapearchiveref10_Read_e (d : Nat) : Env [.v (.slice kBlock), .v (.int .i64)] where
  τ := tyTab types
  n := 59
  Γ := tab [(15, ⟨[.v kCartridge], [.v .bool], fun x => tapearchiveref10_Valid d x⟩), (20, ⟨[.v (.slice kBlock)], [.o 54 kBlock false], fun x => tapearchiveref10_Copied d x⟩)]
  res := [.tmp 4, .tmp 5]
  loopN := tab []
  loopR := tab [(0, ⟨⟨[(2, .ad 2 0), (3, .ad 3 0), (6, .slw 2000001 false), (7, .p (.int .i64))], [(2, .agg 26 kCartridge), (3, .agg 40 kSpan), (2000001, .list 54 kBlock)]⟩, ⟨[(6, .slw 2000001 false)], [(2000001, .list 54 kBlock)]⟩, fun x => tapearchiveref10_Read_l0 d d x.1 x.2.1 x.2.2.1 x.2.2.2⟩)]
  join := tab [(5, ⟨[(2, .ad 2 0), (3, .ad 3 0)], [(2, .agg 26 kCartridge), (3, .agg 40 kSpan)]⟩)]
  loopX := tab []
  unroll := tab []
theorem tapearchiveref10_Read_G (d : Nat) : ∀ f sp, (tapearchiveref10_Read_e d).Γ f = some sp → SpecOK Try.prog f sp := tab_all (all_mem ⟨tapearchiveref10_Valid_ok d, tapearchiveref10_Copied_ok d, trivial⟩)
theorem tapearchiveref10_Read_l0_ok (d : Nat) (C : Cx) (hC : (tapearchiveref10_Read_e d).n = C.n) : ∀ k, LoopR Try.prog C (tapearchiveref10_Read_e d) (loopAt (bodyOf Try.f25) 0) 0 ⟨⟨[(2, .ad 2 0), (3, .ad 3 0), (6, .slw 2000001 false), (7, .p (.int .i64))], [(2, .agg 26 kCartridge), (3, .agg 40 kSpan), (2000001, .list 54 kBlock)]⟩, ⟨[(6, .slw 2000001 false)], [(2000001, .list 54 kBlock)]⟩, fun x => tapearchiveref10_Read_l0 d k x.1 x.2.1 x.2.2.1 x.2.2.2⟩ :=
  loopR_ok (outs := [.v (.slice kBlock), .v (.int .i64)]) ⟨[(2, .ad 2 0), (3, .ad 3 0), (6, .slw 2000001 false), (7, .p (.int .i64))], [(2, .agg 26 kCartridge), (3, .agg 40 kSpan), (2000001, .list 54 kBlock)]⟩ ⟨[(6, .slw 2000001 false)], [(2000001, .list 54 kBlock)]⟩ (fun k x => tapearchiveref10_Read_l0 d k x.1 x.2.1 x.2.2.1 x.2.2.2) (fun _ => tapearchiveref10_Read_e d) (fun _ => ⟨tau_ok, hC, tapearchiveref10_Read_G d⟩) mixed (fun _ => loops_of (l := []) (by kernel_rfl) (all_mem trivial)) (fun _ => rfl) (fun _ => rfl) (fun _ => rfl) (fun k x => by kernel_rfl)
theorem tapearchiveref10_Read_ok (d : Nat) : SpecOK Try.prog 25 ⟨[.v kCartridge, .v kSpan], [.v (.slice kBlock), .v (.int .i64)], fun x => tapearchiveref10_Read d x.1 x.2⟩ :=
  fn_ok (e := tapearchiveref10_Read_e d) (c := bodyOf Try.f25) Try.func25 (by kernel_rfl) (by decide +kernel) mixed tau_ok (tapearchiveref10_Read_G d) rfl (by decide) (by decide) (by kernel_rfl) rfl (by decide) (fun C hC => loops_of (l := [(0, loopAt (bodyOf Try.f25) 0)]) (by kernel_rfl) (all_mem ⟨⟨tab_none rfl, tab_none rfl, tab_one rfl (tapearchiveref10_Read_l0_ok d C hC d), tab_none rfl⟩, trivial⟩)) (fun x => by kernel_rfl)
def tapearchiveref10_Marks_e (d : Nat) : Env [.v (.int .i64), .v (.int .i64)] where
  τ := tyTab types
  n := 51
  Γ := tab [(15, ⟨[.v kCartridge], [.v .bool], fun x => tapearchiveref10_Valid d x⟩)]
  res := [.tmp 6, .tmp 7]
  loopN := tab []
  loopR := tab [(0, ⟨⟨[(1, .p (.int .i64)), (2, .p (.int .i64)), (3, .ad 3 0)], [(3, .agg 26 kCartridge)]⟩, ⟨[(1, .p (.int .i64))], []⟩, fun x => tapearchiveref10_Marks_l0 d d x.1 x.2.1 x.2.2⟩)]
  join := tab [(5, ⟨[(1, .p (.int .i64)), (2, .p (.int .i64)), (3, .ad 3 0)], [(3, .agg 26 kCartridge)]⟩)]
  loopX := tab []
  unroll := tab []
theorem tapearchiveref10_Marks_G (d : Nat) : ∀ f sp, (tapearchiveref10_Marks_e d).Γ f = some sp → SpecOK Try.prog f sp := tab_all (all_mem ⟨tapearchiveref10_Valid_ok d, trivial⟩)
theorem tapearchiveref10_Marks_l0_ok (d : Nat) (C : Cx) (hC : (tapearchiveref10_Marks_e d).n = C.n) : ∀ k, LoopR Try.prog C (tapearchiveref10_Marks_e d) (loopAt (bodyOf Try.f27) 0) 0 ⟨⟨[(1, .p (.int .i64)), (2, .p (.int .i64)), (3, .ad 3 0)], [(3, .agg 26 kCartridge)]⟩, ⟨[(1, .p (.int .i64))], []⟩, fun x => tapearchiveref10_Marks_l0 d k x.1 x.2.1 x.2.2⟩ :=
  loopR_ok (outs := [.v (.int .i64), .v (.int .i64)]) ⟨[(1, .p (.int .i64)), (2, .p (.int .i64)), (3, .ad 3 0)], [(3, .agg 26 kCartridge)]⟩ ⟨[(1, .p (.int .i64))], []⟩ (fun k x => tapearchiveref10_Marks_l0 d k x.1 x.2.1 x.2.2) (fun _ => tapearchiveref10_Marks_e d) (fun _ => ⟨tau_ok, hC, tapearchiveref10_Marks_G d⟩) mixed (fun _ => loops_of (l := []) (by kernel_rfl) (all_mem trivial)) (fun _ => rfl) (fun _ => rfl) (fun _ => rfl) (fun k x => by kernel_rfl)
theorem tapearchiveref10_Marks_ok (d : Nat) : SpecOK Try.prog 27 ⟨[.v kCartridge, .v (.int .i64), .v (.int .i64)], [.v (.int .i64), .v (.int .i64)], fun x => tapearchiveref10_Marks d x.1 x.2.1 x.2.2⟩ :=
  fn_ok (e := tapearchiveref10_Marks_e d) (c := bodyOf Try.f27) Try.func27 (by kernel_rfl) (by decide +kernel) mixed tau_ok (tapearchiveref10_Marks_G d) rfl (by decide) (by decide) (by kernel_rfl) rfl (by decide) (fun C hC => loops_of (l := [(0, loopAt (bodyOf Try.f27) 0)]) (by kernel_rfl) (all_mem ⟨⟨tab_none rfl, tab_none rfl, tab_one rfl (tapearchiveref10_Marks_l0_ok d C hC d), tab_none rfl⟩, trivial⟩)) (fun x => by kernel_rfl)
def tapearchivelaw10_CartridgeReads_e (d : Nat) : Env [.v .bool] where
  τ := tyTab types
  n := 68
  Γ := tab [(10, ⟨[.v kCartridge], [.v .bool], fun x => tapearchivelaw10_light d x⟩), (11, ⟨[], [.v .bool], fun x => tapearchivelaw10_awake d⟩), (23, ⟨[.v (.slice kBlock), .v (.slice kBlock)], [.v .bool], fun x => tapearchiveref10_SameBlocks d x.1 x.2⟩), (24, ⟨[.v kCartridge, .v kSpan], [.v (.slice kBlock), .v (.int .i64)], fun x => cartridge_Read d x.1 x.2⟩), (25, ⟨[.v kCartridge, .v kSpan], [.v (.slice kBlock), .v (.int .i64)], fun x => tapearchiveref10_Read d x.1 x.2⟩), (26, ⟨[.v kCartridge, .v (.int .i64), .v (.int .i64)], [.v (.int .i64), .v (.int .i64)], fun x => cartridge_Marks d x.1 x.2.1 x.2.2⟩), (27, ⟨[.v kCartridge, .v (.int .i64), .v (.int .i64)], [.v (.int .i64), .v (.int .i64)], fun x => tapearchiveref10_Marks d x.1 x.2.1 x.2.2⟩)]
  res := [.tmp 6]
  loopN := tab []
  loopR := tab []
  join := tab []
  loopX := tab []
  unroll := tab []
theorem tapearchivelaw10_CartridgeReads_G (d : Nat) : ∀ f sp, (tapearchivelaw10_CartridgeReads_e d).Γ f = some sp → SpecOK Try.prog f sp := tab_all (all_mem ⟨tapearchivelaw10_light_ok d, tapearchivelaw10_awake_ok d, tapearchiveref10_SameBlocks_ok d, cartridge_Read_ok d, tapearchiveref10_Read_ok d, cartridge_Marks_ok d, tapearchiveref10_Marks_ok d, trivial⟩)
theorem tapearchivelaw10_CartridgeReads_ok (d : Nat) : SpecOK Try.prog 5 ⟨[.v kCartridge, .v kSpan, .v (.int .i64)], [.v .bool], fun x => tapearchivelaw10_CartridgeReads d x.1 x.2.1 x.2.2⟩ :=
  fn_ok (e := tapearchivelaw10_CartridgeReads_e d) (c := bodyOf Try.f5) Try.func5 (by kernel_rfl) (by decide +kernel) mixed tau_ok (tapearchivelaw10_CartridgeReads_G d) rfl (by decide) (by decide) (by kernel_rfl) rfl (by decide) (fun C hC => loops_of (l := []) (by kernel_rfl) (all_mem trivial)) (fun x => by kernel_rfl)
def tapearchivelaw10_CartridgeAppends_e (d : Nat) : Env [.v .bool] where
  τ := tyTab types
  n := 93
  Γ := tab [(10, ⟨[.v kCartridge], [.v .bool], fun x => tapearchivelaw10_light d x⟩), (11, ⟨[], [.v .bool], fun x => tapearchivelaw10_awake d⟩), (14, ⟨[.v kCartridge], [.v .bool], fun x => cartridge_Valid d x⟩), (15, ⟨[.v kCartridge], [.v .bool], fun x => tapearchiveref10_Valid d x⟩), (17, ⟨[.v kCartridge], [.v (.int .i64)], fun x => cartridge_Free d x⟩), (19, ⟨[.v (.slice kBlock)], [.v .bool], fun x => tapearchivelaw10_lightBlocks d x⟩), (21, ⟨[.v kCartridge, .v (.int .i64), .v (.slice kBlock)], [.v kCartridge, .v (.int .i64)], fun x => cartridge_Write d x.1 x.2.1 x.2.2⟩), (23, ⟨[.v (.slice kBlock), .v (.slice kBlock)], [.v .bool], fun x => tapearchiveref10_SameBlocks d x.1 x.2⟩), (24, ⟨[.v kCartridge, .v kSpan], [.v (.slice kBlock), .v (.int .i64)], fun x => cartridge_Read d x.1 x.2⟩)]
  res := [.tmp 4]
  loopN := tab []
  loopR := tab []
  join := tab [(3, ⟨[(1, .p (.slice kBlock)), (2, .ad 2 0)], [(2, .agg 26 kCartridge)]⟩)]
  loopX := tab []
  unroll := tab []
theorem tapearchivelaw10_CartridgeAppends_G (d : Nat) : ∀ f sp, (tapearchivelaw10_CartridgeAppends_e d).Γ f = some sp → SpecOK Try.prog f sp := tab_all (all_mem ⟨tapearchivelaw10_light_ok d, tapearchivelaw10_awake_ok d, cartridge_Valid_ok d, tapearchiveref10_Valid_ok d, cartridge_Free_ok d, tapearchivelaw10_lightBlocks_ok d, cartridge_Write_ok d, tapearchiveref10_SameBlocks_ok d, cartridge_Read_ok d, trivial⟩)
theorem tapearchivelaw10_CartridgeAppends_ok (d : Nat) : SpecOK Try.prog 6 ⟨[.v kCartridge, .v (.slice kBlock)], [.v .bool], fun x => tapearchivelaw10_CartridgeAppends d x.1 x.2⟩ :=
  fn_ok (e := tapearchivelaw10_CartridgeAppends_e d) (c := bodyOf Try.f6) Try.func6 (by kernel_rfl) (by decide +kernel) mixed tau_ok (tapearchivelaw10_CartridgeAppends_G d) rfl (by decide) (by decide) (by kernel_rfl) rfl (by decide) (fun C hC => loops_of (l := []) (by kernel_rfl) (all_mem trivial)) (fun x => by kernel_rfl)
def tapearchivelaw10_CartridgeKeeps_e (d : Nat) : Env [.v .bool] where
  τ := tyTab types
  n := 98
  Γ := tab [(10, ⟨[.v kCartridge], [.v .bool], fun x => tapearchivelaw10_light d x⟩), (11, ⟨[], [.v .bool], fun x => tapearchivelaw10_awake d⟩), (15, ⟨[.v kCartridge], [.v .bool], fun x => tapearchiveref10_Valid d x⟩), (19, ⟨[.v (.slice kBlock)], [.v .bool], fun x => tapearchivelaw10_lightBlocks d x⟩), (21, ⟨[.v kCartridge, .v (.int .i64), .v (.slice kBlock)], [.v kCartridge, .v (.int .i64)], fun x => cartridge_Write d x.1 x.2.1 x.2.2⟩), (23, ⟨[.v (.slice kBlock), .v (.slice kBlock)], [.v .bool], fun x => tapearchiveref10_SameBlocks d x.1 x.2⟩), (28, ⟨[.v kCartridge], [.v kCartridge, .v (.int .i64)], fun x => cartridge_Erase d x⟩)]
  res := [.tmp 4]
  loopN := tab []
  loopR := tab [(0, ⟨⟨[(1, .p (.slice ktapearchivelaw10_Step)), (2, .ad 2 0), (5, .ad 5 0), (6, .p (.int .i64))], [(2, .agg 26 kCartridge), (5, .agg 26 kCartridge)]⟩, ⟨[], []⟩, fun x => tapearchivelaw10_CartridgeKeeps_l0 d d x.1 x.2.1 x.2.2.1 x.2.2.2⟩)]
  join := tab [(3, ⟨[(1, .p (.slice ktapearchivelaw10_Step)), (2, .ad 2 0)], [(2, .agg 26 kCartridge)]⟩), (12, ⟨[(1, .p (.slice ktapearchivelaw10_Step)), (2, .ad 2 0), (5, .ad 5 0), (6, .p (.int .i64)), (7, .ad 7 0), (8, .p (.int .i64))], [(2, .agg 26 kCartridge), (5, .agg 26 kCartridge), (7, .agg 26 kCartridge)]⟩)]
  loopX := tab []
  unroll := tab []
theorem tapearchivelaw10_CartridgeKeeps_G (d : Nat) : ∀ f sp, (tapearchivelaw10_CartridgeKeeps_e d).Γ f = some sp → SpecOK Try.prog f sp := tab_all (all_mem ⟨tapearchivelaw10_light_ok d, tapearchivelaw10_awake_ok d, tapearchiveref10_Valid_ok d, tapearchivelaw10_lightBlocks_ok d, cartridge_Write_ok d, tapearchiveref10_SameBlocks_ok d, cartridge_Erase_ok d, trivial⟩)
theorem tapearchivelaw10_CartridgeKeeps_l0_ok (d : Nat) (C : Cx) (hC : (tapearchivelaw10_CartridgeKeeps_e d).n = C.n) : ∀ k, LoopR Try.prog C (tapearchivelaw10_CartridgeKeeps_e d) (loopAt (bodyOf Try.f7) 0) 0 ⟨⟨[(1, .p (.slice ktapearchivelaw10_Step)), (2, .ad 2 0), (5, .ad 5 0), (6, .p (.int .i64))], [(2, .agg 26 kCartridge), (5, .agg 26 kCartridge)]⟩, ⟨[], []⟩, fun x => tapearchivelaw10_CartridgeKeeps_l0 d k x.1 x.2.1 x.2.2.1 x.2.2.2⟩ :=
  loopR_ok (outs := [.v .bool]) ⟨[(1, .p (.slice ktapearchivelaw10_Step)), (2, .ad 2 0), (5, .ad 5 0), (6, .p (.int .i64))], [(2, .agg 26 kCartridge), (5, .agg 26 kCartridge)]⟩ ⟨[], []⟩ (fun k x => tapearchivelaw10_CartridgeKeeps_l0 d k x.1 x.2.1 x.2.2.1 x.2.2.2) (fun _ => tapearchivelaw10_CartridgeKeeps_e d) (fun _ => ⟨tau_ok, hC, tapearchivelaw10_CartridgeKeeps_G d⟩) mixed (fun _ => loops_of (l := []) (by kernel_rfl) (all_mem trivial)) (fun _ => rfl) (fun _ => rfl) (fun _ => rfl) (fun k x => by kernel_rfl)
theorem tapearchivelaw10_CartridgeKeeps_ok (d : Nat) : SpecOK Try.prog 7 ⟨[.v kCartridge, .v (.slice ktapearchivelaw10_Step)], [.v .bool], fun x => tapearchivelaw10_CartridgeKeeps d x.1 x.2⟩ :=
  fn_ok (e := tapearchivelaw10_CartridgeKeeps_e d) (c := bodyOf Try.f7) Try.func7 (by kernel_rfl) (by decide +kernel) mixed tau_ok (tapearchivelaw10_CartridgeKeeps_G d) rfl (by decide) (by decide) (by kernel_rfl) rfl (by decide) (fun C hC => loops_of (l := [(0, loopAt (bodyOf Try.f7) 0)]) (by kernel_rfl) (all_mem ⟨⟨tab_none rfl, tab_none rfl, tab_one rfl (tapearchivelaw10_CartridgeKeeps_l0_ok d C hC d), tab_none rfl⟩, trivial⟩)) (fun x => by kernel_rfl)
def tapearchivelaw10_CartridgeCounts_e (d : Nat) : Env [.v .bool] where
  τ := tyTab types
  n := 85
  Γ := tab [(10, ⟨[.v kCartridge], [.v .bool], fun x => tapearchivelaw10_light d x⟩), (11, ⟨[], [.v .bool], fun x => tapearchivelaw10_awake d⟩), (26, ⟨[.v kCartridge, .v (.int .i64), .v (.int .i64)], [.v (.int .i64), .v (.int .i64)], fun x => cartridge_Marks d x.1 x.2.1 x.2.2⟩)]
  res := [.tmp 6]
  loopN := tab []
  loopR := tab [(0, ⟨⟨[(1, .p (.int .i64)), (2, .p (.int .i64)), (3, .ad 3 0), (7, .p (.int .i64)), (8, .p (.int .i64)), (9, .p (.int .i64))], [(3, .agg 26 kCartridge)]⟩, ⟨[(1, .p (.int .i64)), (7, .p (.int .i64)), (8, .p (.int .i64))], []⟩, fun x => tapearchivelaw10_CartridgeCounts_l0 d d x.1 x.2.1 x.2.2.1 x.2.2.2.1 x.2.2.2.2.1 x.2.2.2.2.2⟩)]
  join := tab [(3, ⟨[(1, .p (.int .i64)), (2, .p (.int .i64)), (3, .ad 3 0)], [(3, .agg 26 kCartridge)]⟩)]
  loopX := tab []
  unroll := tab []
theorem tapearchivelaw10_CartridgeCounts_G (d : Nat) : ∀ f sp, (tapearchivelaw10_CartridgeCounts_e d).Γ f = some sp → SpecOK Try.prog f sp := tab_all (all_mem ⟨tapearchivelaw10_light_ok d, tapearchivelaw10_awake_ok d, cartridge_Marks_ok d, trivial⟩)
theorem tapearchivelaw10_CartridgeCounts_l0_ok (d : Nat) (C : Cx) (hC : (tapearchivelaw10_CartridgeCounts_e d).n = C.n) : ∀ k, LoopR Try.prog C (tapearchivelaw10_CartridgeCounts_e d) (loopAt (bodyOf Try.f8) 0) 0 ⟨⟨[(1, .p (.int .i64)), (2, .p (.int .i64)), (3, .ad 3 0), (7, .p (.int .i64)), (8, .p (.int .i64)), (9, .p (.int .i64))], [(3, .agg 26 kCartridge)]⟩, ⟨[(1, .p (.int .i64)), (7, .p (.int .i64)), (8, .p (.int .i64))], []⟩, fun x => tapearchivelaw10_CartridgeCounts_l0 d k x.1 x.2.1 x.2.2.1 x.2.2.2.1 x.2.2.2.2.1 x.2.2.2.2.2⟩ :=
  loopR_ok (outs := [.v .bool]) ⟨[(1, .p (.int .i64)), (2, .p (.int .i64)), (3, .ad 3 0), (7, .p (.int .i64)), (8, .p (.int .i64)), (9, .p (.int .i64))], [(3, .agg 26 kCartridge)]⟩ ⟨[(1, .p (.int .i64)), (7, .p (.int .i64)), (8, .p (.int .i64))], []⟩ (fun k x => tapearchivelaw10_CartridgeCounts_l0 d k x.1 x.2.1 x.2.2.1 x.2.2.2.1 x.2.2.2.2.1 x.2.2.2.2.2) (fun _ => tapearchivelaw10_CartridgeCounts_e d) (fun _ => ⟨tau_ok, hC, tapearchivelaw10_CartridgeCounts_G d⟩) mixed (fun _ => loops_of (l := []) (by kernel_rfl) (all_mem trivial)) (fun _ => rfl) (fun _ => rfl) (fun _ => rfl) (fun k x => by kernel_rfl)
theorem tapearchivelaw10_CartridgeCounts_ok (d : Nat) : SpecOK Try.prog 8 ⟨[.v kCartridge, .v (.int .i64), .v (.int .i64)], [.v .bool], fun x => tapearchivelaw10_CartridgeCounts d x.1 x.2.1 x.2.2⟩ :=
  fn_ok (e := tapearchivelaw10_CartridgeCounts_e d) (c := bodyOf Try.f8) Try.func8 (by kernel_rfl) (by decide +kernel) mixed tau_ok (tapearchivelaw10_CartridgeCounts_G d) rfl (by decide) (by decide) (by kernel_rfl) rfl (by decide) (fun C hC => loops_of (l := [(0, loopAt (bodyOf Try.f8) 0)]) (by kernel_rfl) (all_mem ⟨⟨tab_none rfl, tab_none rfl, tab_one rfl (tapearchivelaw10_CartridgeCounts_l0_ok d C hC d), tab_none rfl⟩, trivial⟩)) (fun x => by kernel_rfl)
def tapearchiveref10_Erase_e (d : Nat) : Env [.v kCartridge, .v (.int .i64)] where
  τ := tyTab types
  n := 25
  Γ := tab [(15, ⟨[.v kCartridge], [.v .bool], fun x => tapearchiveref10_Valid d x⟩)]
  res := [.cell 2 26, .tmp 3]
  loopN := tab []
  loopR := tab []
  join := tab [(5, ⟨[(1, .ad 1 0), (2, .ad 2 0)], [(1, .agg 26 kCartridge), (2, .agg 26 kCartridge)]⟩)]
  loopX := tab []
  unroll := tab []
theorem tapearchiveref10_Erase_G (d : Nat) : ∀ f sp, (tapearchiveref10_Erase_e d).Γ f = some sp → SpecOK Try.prog f sp := tab_all (all_mem ⟨tapearchiveref10_Valid_ok d, trivial⟩)
theorem tapearchiveref10_Erase_ok (d : Nat) : SpecOK Try.prog 29 ⟨[.v kCartridge], [.v kCartridge, .v (.int .i64)], fun x => tapearchiveref10_Erase d x⟩ :=
  fn_ok (e := tapearchiveref10_Erase_e d) (c := bodyOf Try.f29) Try.func29 (by kernel_rfl) (by decide +kernel) mixed tau_ok (tapearchiveref10_Erase_G d) rfl (by decide) (by decide) (by kernel_rfl) rfl (by decide) (fun C hC => loops_of (l := []) (by kernel_rfl) (all_mem trivial)) (fun x => by kernel_rfl)
def cartridge_Damage_e (d : Nat) : Env [.v kCartridge] where
  τ := tyTab types
  n := 62
  Γ := tab [(14, ⟨[.v kCartridge], [.v .bool], fun x => cartridge_Valid d x⟩), (45, ⟨[.v kCartridge, .v (.slice kBlock)], [.v kCartridge], fun x => cartridge_with d x.1 x.2⟩), (46, ⟨[.v (.slice kBlock)], [.o 54 kBlock true], fun x => cartridge_copied d x⟩)]
  res := [.cell 4 26]
  loopN := tab [(0, ⟨⟨[(2, .ad 2 0), (4, .ad 4 0), (5, .slw 1000224 true), (6, .p (.int .i64)), (7, .p (.int .i64))], [(2, .agg 26 kCartridge), (4, .agg 26 kCartridge), (1000224, .list 54 kBlock)]⟩, ⟨[(2, .ad 2 0), (4, .ad 4 0), (5, .slw 1000224 true)], [(2, .agg 26 kCartridge), (4, .agg 26 kCartridge), (1000224, .list 54 kBlock)]⟩, fun x => cartridge_Damage_l0 d d x.1 x.2.1 x.2.2.1 x.2.2.2.1 x.2.2.2.2⟩)]
  loopR := tab []
  join := tab [(8, ⟨[(2, .ad 2 0), (3, .ad 3 0), (4, .ad 4 0), (5, .slw 1000224 true), (6, .p (.int .i64))], [(2, .agg 26 kCartridge), (3, .agg 40 kSpan), (4, .agg 26 kCartridge), (1000224, .list 54 kBlock)]⟩), (12, ⟨[(2, .ad 2 0), (4, .ad 4 0), (5, .slw 1000224 true)], [(2, .agg 26 kCartridge), (4, .agg 26 kCartridge), (1000224, .list 54 kBlock)]⟩)]
  loopX := tab []
  unroll := tab []
theorem cartridge_Damage_G (d : Nat) : ∀ f sp, (cartridge_Damage_e d).Γ f = some sp → SpecOK Try.prog f sp := tab_all (all_mem ⟨cartridge_Valid_ok d, cartridge_with_ok d, cartridge_copied_ok d, trivial⟩)
theorem cartridge_Damage_l0_ok (d : Nat) (C : Cx) (hC : (cartridge_Damage_e d).n = C.n) : ∀ k, LoopN Try.prog C (loopAt (bodyOf Try.f30) 0) 0 ⟨⟨[(2, .ad 2 0), (4, .ad 4 0), (5, .slw 1000224 true), (6, .p (.int .i64)), (7, .p (.int .i64))], [(2, .agg 26 kCartridge), (4, .agg 26 kCartridge), (1000224, .list 54 kBlock)]⟩, ⟨[(2, .ad 2 0), (4, .ad 4 0), (5, .slw 1000224 true)], [(2, .agg 26 kCartridge), (4, .agg 26 kCartridge), (1000224, .list 54 kBlock)]⟩, fun x => cartridge_Damage_l0 d k x.1 x.2.1 x.2.2.1 x.2.2.2.1 x.2.2.2.2⟩ :=
  loopN_ok (outs := [.v kCartridge]) ⟨[(2, .ad 2 0), (4, .ad 4 0), (5, .slw 1000224 true), (6, .p (.int .i64)), (7, .p (.int .i64))], [(2, .agg 26 kCartridge), (4, .agg 26 kCartridge), (1000224, .list 54 kBlock)]⟩ ⟨[(2, .ad 2 0), (4, .ad 4 0), (5, .slw 1000224 true)], [(2, .agg 26 kCartridge), (4, .agg 26 kCartridge), (1000224, .list 54 kBlock)]⟩ (fun k x => cartridge_Damage_l0 d k x.1 x.2.1 x.2.2.1 x.2.2.2.1 x.2.2.2.2) (fun _ => cartridge_Damage_e d) (fun _ => ⟨tau_ok, hC, cartridge_Damage_G d⟩) mixed (fun _ => loops_of (l := []) (by kernel_rfl) (all_mem trivial)) (fun _ => rfl) (fun k x => by kernel_rfl)
theorem cartridge_Damage_ok (d : Nat) : SpecOK Try.prog 30 ⟨[.v kCartridge, .v kSpan], [.v kCartridge], fun x => cartridge_Damage d x.1 x.2⟩ :=
  fn_ok (e := cartridge_Damage_e d) (c := bodyOf Try.f30) Try.func30 (by kernel_rfl) (by decide +kernel) mixed tau_ok (cartridge_Damage_G d) rfl (by decide) (by decide) (by kernel_rfl) rfl (by decide) (fun C hC => loops_of (l := [(0, loopAt (bodyOf Try.f30) 0)]) (by kernel_rfl) (all_mem ⟨⟨tab_none rfl, tab_one rfl (cartridge_Damage_l0_ok d C hC d), tab_none rfl, tab_none rfl⟩, trivial⟩)) (fun x => by kernel_rfl)
def tapearchiveref10_Damage_e (d : Nat) : Env [.v kCartridge] where
  τ := tyTab types
  n := 64
  Γ := tab [(15, ⟨[.v kCartridge], [.v .bool], fun x => tapearchiveref10_Valid d x⟩), (20, ⟨[.v (.slice kBlock)], [.o 54 kBlock false], fun x => tapearchiveref10_Copied d x⟩)]
  res := [.cell 4 26]
  loopN := tab [(0, ⟨⟨[(2, .ad 2 0), (3, .ad 3 0), (4, .ad 4 0), (5, .slw 1000208 false), (6, .p (.int .i64))], [(2, .agg 26 kCartridge), (3, .agg 40 kSpan), (4, .agg 26 kCartridge), (1000208, .list 54 kBlock)]⟩, ⟨[(2, .ad 2 0), (4, .ad 4 0), (5, .slw 1000208 false)], [(2, .agg 26 kCartridge), (4, .agg 26 kCartridge), (1000208, .list 54 kBlock)]⟩, fun x => tapearchiveref10_Damage_l0 d d x.1 x.2.1 x.2.2.1 x.2.2.2.1 x.2.2.2.2⟩)]
  loopR := tab []
  join := tab []
  loopX := tab []
  unroll := tab []
theorem tapearchiveref10_Damage_G (d : Nat) : ∀ f sp, (tapearchiveref10_Damage_e d).Γ f = some sp → SpecOK Try.prog f sp := tab_all (all_mem ⟨tapearchiveref10_Valid_ok d, tapearchiveref10_Copied_ok d, trivial⟩)
theorem tapearchiveref10_Damage_l0_ok (d : Nat) (C : Cx) (hC : (tapearchiveref10_Damage_e d).n = C.n) : ∀ k, LoopN Try.prog C (loopAt (bodyOf Try.f31) 0) 0 ⟨⟨[(2, .ad 2 0), (3, .ad 3 0), (4, .ad 4 0), (5, .slw 1000208 false), (6, .p (.int .i64))], [(2, .agg 26 kCartridge), (3, .agg 40 kSpan), (4, .agg 26 kCartridge), (1000208, .list 54 kBlock)]⟩, ⟨[(2, .ad 2 0), (4, .ad 4 0), (5, .slw 1000208 false)], [(2, .agg 26 kCartridge), (4, .agg 26 kCartridge), (1000208, .list 54 kBlock)]⟩, fun x => tapearchiveref10_Damage_l0 d k x.1 x.2.1 x.2.2.1 x.2.2.2.1 x.2.2.2.2⟩ :=
  loopN_ok (outs := [.v kCartridge]) ⟨[(2, .ad 2 0), (3, .ad 3 0), (4, .ad 4 0), (5, .slw 1000208 false), (6, .p (.int .i64))], [(2, .agg 26 kCartridge), (3, .agg 40 kSpan), (4, .agg 26 kCartridge), (1000208, .list 54 kBlock)]⟩ ⟨[(2, .ad 2 0), (4, .ad 4 0), (5, .slw 1000208 false)], [(2, .agg 26 kCartridge), (4, .agg 26 kCartridge), (1000208, .list 54 kBlock)]⟩ (fun k x => tapearchiveref10_Damage_l0 d k x.1 x.2.1 x.2.2.1 x.2.2.2.1 x.2.2.2.2) (fun _ => tapearchiveref10_Damage_e d) (fun _ => ⟨tau_ok, hC, tapearchiveref10_Damage_G d⟩) mixed (fun _ => loops_of (l := []) (by kernel_rfl) (all_mem trivial)) (fun _ => rfl) (fun k x => by kernel_rfl)
theorem tapearchiveref10_Damage_ok (d : Nat) : SpecOK Try.prog 31 ⟨[.v kCartridge, .v kSpan], [.v kCartridge], fun x => tapearchiveref10_Damage d x.1 x.2⟩ :=
  fn_ok (e := tapearchiveref10_Damage_e d) (c := bodyOf Try.f31) Try.func31 (by kernel_rfl) (by decide +kernel) mixed tau_ok (tapearchiveref10_Damage_G d) rfl (by decide) (by decide) (by kernel_rfl) rfl (by decide) (fun C hC => loops_of (l := [(0, loopAt (bodyOf Try.f31) 0)]) (by kernel_rfl) (all_mem ⟨⟨tab_none rfl, tab_one rfl (tapearchiveref10_Damage_l0_ok d C hC d), tab_none rfl, tab_none rfl⟩, trivial⟩)) (fun x => by kernel_rfl)
def tapearchivelaw10_CartridgeErases_e (d : Nat) : Env [.v .bool] where
  τ := tyTab types
  n := 43
  Γ := tab [(10, ⟨[.v kCartridge], [.v .bool], fun x => tapearchivelaw10_light d x⟩), (11, ⟨[], [.v .bool], fun x => tapearchivelaw10_awake d⟩), (16, ⟨[.v kCartridge, .v kCartridge], [.v .bool], fun x => tapearchiveref10_Same d x.1 x.2⟩), (28, ⟨[.v kCartridge], [.v kCartridge, .v (.int .i64)], fun x => cartridge_Erase d x⟩), (29, ⟨[.v kCartridge], [.v kCartridge, .v (.int .i64)], fun x => tapearchiveref10_Erase d x⟩), (30, ⟨[.v kCartridge, .v kSpan], [.v kCartridge], fun x => cartridge_Damage d x.1 x.2⟩), (31, ⟨[.v kCartridge, .v kSpan], [.v kCartridge], fun x => tapearchiveref10_Damage d x.1 x.2⟩)]
  res := [.tmp 4]
  loopN := tab []
  loopR := tab []
  join := tab []
  loopX := tab []
  unroll := tab []
theorem tapearchivelaw10_CartridgeErases_G (d : Nat) : ∀ f sp, (tapearchivelaw10_CartridgeErases_e d).Γ f = some sp → SpecOK Try.prog f sp := tab_all (all_mem ⟨tapearchivelaw10_light_ok d, tapearchivelaw10_awake_ok d, tapearchiveref10_Same_ok d, cartridge_Erase_ok d, tapearchiveref10_Erase_ok d, cartridge_Damage_ok d, tapearchiveref10_Damage_ok d, trivial⟩)
theorem tapearchivelaw10_CartridgeErases_ok (d : Nat) : SpecOK Try.prog 9 ⟨[.v kCartridge, .v kSpan], [.v .bool], fun x => tapearchivelaw10_CartridgeErases d x.1 x.2⟩ :=
  fn_ok (e := tapearchivelaw10_CartridgeErases_e d) (c := bodyOf Try.f9) Try.func9 (by kernel_rfl) (by decide +kernel) mixed tau_ok (tapearchivelaw10_CartridgeErases_G d) rfl (by decide) (by decide) (by kernel_rfl) rfl (by decide) (fun C hC => loops_of (l := []) (by kernel_rfl) (all_mem trivial)) (fun x => by kernel_rfl)
end Go.Proofs.Ytiaafpihoikeeaa.Den.G10
