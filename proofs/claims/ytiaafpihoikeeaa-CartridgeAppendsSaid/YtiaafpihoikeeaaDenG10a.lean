/- The plain functions of the Go code: written by emit.py. -/
import Derived.Test.YtiaafpihoikeeaaDenA
set_option linter.unusedVariables false
namespace Go.Proofs.Ytiaafpihoikeeaa.Den.G10
open Go.Proofs.Ytiaafpihoikeeaa.Den Go
abbrev kSpan : K := .pair (.int .i64) (.int .i64)
abbrev zSpan : Int × Int := (0, 0)
abbrev kBlock : K := .pair .bool (.pair .bool (.slice (.int .u8)))
abbrev zBlock : Bool × Bool × List Int := (false, false, [])
abbrev ktapearchivelaw10_Step : K := .pair .bool (.pair (.int .i64) (.slice kBlock))
abbrev ztapearchivelaw10_Step : Bool × Int × List (Bool × Bool × List Int) := (false, 0, [])
abbrev kGeometry : K := .pair (.int .i64) (.pair (.int .i64) (.pair (.int .i64) (.pair (.int .i64) kSpan)))
abbrev zGeometry : Int × Int × Int × Int × Int × Int := (0, 0, 0, 0, 0, 0)
abbrev kCartridge : K := .pair .str (.pair kGeometry (.pair .bool (.pair .bool (.pair (.slice kBlock) (.pair (.int .i64) kSpan)))))
abbrev zCartridge : ByteArray × (Int × Int × Int × Int × Int × Int) × Bool × Bool × (List (Bool × Bool × List Int)) × Int × Int × Int := (ByteArray.empty, (0, 0, 0, 0, 0, 0), false, false, [], 0, 0, 0)
def tapearchivelaw10_lightBlocks_l0 (d : Nat) : Nat → (List (Bool × Bool × List Int)) → Int → Option (Unit ⊕ Bool)
  | 0, _, _ => none
  | k + 1, t0, t3 =>
    if (decide (t3 < (t0.length : Int))) = true then
     if (decide ((0 : Int) ≤ t3 ∧ t3 < (t0.length : Int))) = true then
      if (decide (((t0.getD t3.toNat zBlock).2.2.length : Int) > 200)) = true then
       some (.inr false)
      else
       tapearchivelaw10_lightBlocks_l0 d k t0 (IntKind.i64.wrap (t3 + 1))
     else none
    else
     some (.inl ())
def tapearchivelaw10_lightBlocks (d : Nat) (a0 : List (Bool × Bool × List Int)) : Option Bool :=
  if (decide ((a0.length : Int) > 300)) = true then
   some false
  else
   (tapearchivelaw10_lightBlocks_l0 d d a0 0).bind fun y2 => match y2 with
   | .inl y2 =>
    some true
   | .inr r3 =>
    some r3
def tapearchivelaw10_light (d : Nat) (a0 : ByteArray × (Int × Int × Int × Int × Int × Int) × Bool × Bool × (List (Bool × Bool × List Int)) × Int × Int × Int) : Option Bool :=
  (tapearchivelaw10_lightBlocks d a0.2.2.2.2.1).bind fun r1 =>
  if r1 = true then
   some (decide ((a0.1.size : Int) ≤ 100))
  else
   some false
def cartridge_barcode_l0 (d : Nat) : Nat → ByteArray → (List Int) → Int → Int → Option (ByteArray ⊕ Bool)
  | 0, _, _, _, _ => none
  | k + 1, t0, t6, t7, t8 =>
    if (decide (t8 < t7)) = true then
     if (decide ((0 : Int) ≤ t8 ∧ t8 < (t6.length : Int))) = true then
      if (decide ((t6.getD t8.toNat 0) < 65)) = true then
       if (decide ((t6.getD t8.toNat 0) < 48)) = true then
        some (.inr false)
       else
        if (decide ((t6.getD t8.toNat 0) > 57)) = true then
         some (.inr false)
        else
         cartridge_barcode_l0 d k t0 t6 t7 (IntKind.i64.wrap (t8 + 1))
      else
       if (decide ((t6.getD t8.toNat 0) > 90)) = true then
        if (decide ((t6.getD t8.toNat 0) < 48)) = true then
         some (.inr false)
        else
         if (decide ((t6.getD t8.toNat 0) > 57)) = true then
          some (.inr false)
         else
          cartridge_barcode_l0 d k t0 t6 t7 (IntKind.i64.wrap (t8 + 1))
       else
        cartridge_barcode_l0 d k t0 t6 t7 (IntKind.i64.wrap (t8 + 1))
     else none
    else
     some (.inl t0)
def cartridge_barcode (d : Nat) (a0 : ByteArray) : Option Bool :=
  (cartridge_barcode_l0 d d a0 (bytesOf a0) ((bytesOf a0).length : Int) 0).bind fun y2 => match y2 with
  | .inl y2 =>
   if (decide ((y2.size : Int) ≥ 1)) = true then
    some (decide ((y2.size : Int) ≤ 24))
   else
    some false
  | .inr r3 =>
   some r3
def serpentine_timed_l0 (d : Nat) : Nat → (List Int) → Int → Int → Option (Unit ⊕ Bool)
  | 0, _, _, _ => none
  | k + 1, t5, t6, t7 =>
    if (decide (t7 < t6)) = true then
     if (decide ((0 : Int) ≤ t7 ∧ t7 < (t5.length : Int))) = true then
      if (decide ((t5.getD t7.toNat 0) < 0)) = true then
       some (.inr false)
      else
       if (decide ((t5.getD t7.toNat 0) > 1000000)) = true then
        some (.inr false)
       else
        serpentine_timed_l0 d k t5 t6 (IntKind.i64.wrap (t7 + 1))
     else none
    else
     some (.inl ())
def serpentine_timed (d : Nat) (a0 : List Int) : Option Bool :=
  (serpentine_timed_l0 d d a0 (a0.length : Int) 0).bind fun y2 => match y2 with
  | .inl y2 =>
   some true
  | .inr r3 =>
   some r3
def serpentine_Valid (d : Nat) (a0 : Int × Int × Int × Int × Int × Int) : Option Bool :=
  (show Option (((Int × Int × Int × Int × Int × Int)) ⊕ Bool) from
   if (decide (a0.1 < 1)) = true then
    some (.inr false)
   else
    if (decide (a0.1 > 32)) = true then
     some (.inr false)
    else
     if (decide (a0.2.1 < 1)) = true then
      some (.inr false)
     else
      if (decide (a0.1 = 0)) = true then
       none
      else
       if (decide (a0.2.1 > (IntKind.i64.wrap (Int.tdiv 4096 a0.1)))) = true then
        some (.inr false)
       else
        some (.inl a0)).bind fun y2 => match y2 with
  | .inl y2 =>
   (serpentine_timed d [y2.2.2.1, y2.2.2.2.1, y2.2.2.2.2.1, y2.2.2.2.2.2]).bind fun r3 =>
   some r3
  | .inr x => some x
def cartridge_New (d : Nat) (a0 : ByteArray) (a1 : Int × Int × Int × Int × Int × Int) (a2 : Bool) : Option ((ByteArray × (Int × Int × Int × Int × Int × Int) × Bool × Bool × (List (Bool × Bool × List Int)) × Int × Int × Int) × Int) :=
  (cartridge_barcode d a0).bind fun r1 =>
  if (!r1) = true then
   some ((ByteArray.empty, (0, 0, 0, 0, 0, 0), false, false, [], 0, 0, 0), 8)
  else
   (serpentine_Valid d a1).bind fun r2 =>
   if (!r2) = true then
    some ((ByteArray.empty, (0, 0, 0, 0, 0, 0), false, false, [], 0, 0, 0), 7)
   else
    some ((a0, a1, a2, false, [], 0, 0, 0), 0)
def serpentine_Capacity (d : Nat) (a0 : Int × Int × Int × Int × Int × Int) : Option Int :=
  (serpentine_Valid d a0).bind fun r1 =>
  if (!r1) = true then
   some 0
  else
   some (IntKind.i64.wrap (a0.1 * a0.2.1))
def cartridge_counter (d : Nat) (a0 : Int) : Option Bool :=
  if (decide (a0 ≥ 0)) = true then
   some (decide (a0 ≤ 1125899906842624))
  else
   some false
def cartridge_block (d : Nat) (a0 : Bool × Bool × List Int) : Option Bool :=
  if a0.1 = true then
   some (decide ((a0.2.2.length : Int) = 0))
  else
   if (decide ((a0.2.2.length : Int) ≥ 1)) = true then
    some (decide ((a0.2.2.length : Int) ≤ 64))
   else
    some false
def cartridge_Valid_1 (d : Nat) (a0 : Bool × Bool × List Int) : Option Bool :=
  (cartridge_block d a0).bind fun r1 =>
  some (!r1)
def slices_IndexFunc_api_Block_cartridge_Valid_1_l0 (d : Nat) : Nat → (List (Bool × Bool × List Int)) → Int → Int → Option (Unit ⊕ Int)
  | 0, _, _, _ => none
  | k + 1, t0, t7, t8 =>
    if (decide (t8 < t7)) = true then
     if (decide ((0 : Int) ≤ t8 ∧ t8 < (t0.length : Int))) = true then
      (cartridge_Valid_1 d (t0.getD t8.toNat zBlock)).bind fun r2 =>
      if r2 = true then
       some (.inr t8)
      else
       slices_IndexFunc_api_Block_cartridge_Valid_1_l0 d k t0 t7 (IntKind.i64.wrap (t8 + 1))
     else none
    else
     some (.inl ())
def slices_IndexFunc_api_Block_cartridge_Valid_1 (d : Nat) (a0 : List (Bool × Bool × List Int)) : Option Int :=
  (slices_IndexFunc_api_Block_cartridge_Valid_1_l0 d d a0 (a0.length : Int) 0).bind fun y3 => match y3 with
  | .inl y3 =>
   some (-1)
  | .inr r4 =>
   some r4
def slices_ContainsFunc_api_Block_cartridge_Valid_1 (d : Nat) (a0 : List (Bool × Bool × List Int)) : Option Bool :=
  (slices_IndexFunc_api_Block_cartridge_Valid_1 d a0).bind fun r1 =>
  some (decide (r1 ≥ 0))
def cartridge_Valid (d : Nat) (a0 : ByteArray × (Int × Int × Int × Int × Int × Int) × Bool × Bool × (List (Bool × Bool × List Int)) × Int × Int × Int) : Option Bool :=
  (cartridge_barcode d a0.1).bind fun r1 =>
  if r1 = true then
   (serpentine_Valid d a0.2.1).bind fun r2 =>
   if r2 = true then
    (serpentine_Capacity d a0.2.1).bind fun r3 =>
    if (decide ((a0.2.2.2.2.1.length : Int) ≤ r3)) = true then
     (cartridge_counter d a0.2.2.2.2.2.1).bind fun r4 =>
     if r4 = true then
      (cartridge_counter d a0.2.2.2.2.2.2.1).bind fun r5 =>
      if r5 = true then
       (cartridge_counter d a0.2.2.2.2.2.2.2).bind fun r6 =>
       if r6 = true then
        (slices_ContainsFunc_api_Block_cartridge_Valid_1 d a0.2.2.2.2.1).bind fun r7 =>
        some (!r7)
       else
        some false
      else
       some false
     else
      some false
    else
     some false
   else
    some false
  else
   some false
def cartridge_Free (d : Nat) (a0 : ByteArray × (Int × Int × Int × Int × Int × Int) × Bool × Bool × (List (Bool × Bool × List Int)) × Int × Int × Int) : Option Int :=
  (show Option (((ByteArray × (Int × Int × Int × Int × Int × Int) × Bool × Bool × (List (Bool × Bool × List Int)) × Int × Int × Int)) ⊕ Int) from
   (cartridge_Valid d a0).bind fun r2 =>
   if (!r2) = true then
    some (.inr 0)
   else
    if a0.2.2.2.1 = true then
     some (.inr 0)
    else
     some (.inl a0)).bind fun y3 => match y3 with
  | .inl y3 =>
   (serpentine_Capacity d y3.2.1).bind fun r4 =>
   some (IntKind.i64.wrap (r4 - (y3.2.2.2.2.1.length : Int)))
  | .inr x => some x
def cartridge_writable_1 (d : Nat) (a0 : Bool × Bool × List Int) : Option Bool :=
  if a0.2.1 = true then
   some true
  else
   (cartridge_block d a0).bind fun r1 =>
   some (!r1)
def slices_IndexFunc_api_Block_cartridge_writable_1_l0 (d : Nat) : Nat → (List (Bool × Bool × List Int)) → Int → Int → Option (Unit ⊕ Int)
  | 0, _, _, _ => none
  | k + 1, t0, t7, t8 =>
    if (decide (t8 < t7)) = true then
     if (decide ((0 : Int) ≤ t8 ∧ t8 < (t0.length : Int))) = true then
      (cartridge_writable_1 d (t0.getD t8.toNat zBlock)).bind fun r2 =>
      if r2 = true then
       some (.inr t8)
      else
       slices_IndexFunc_api_Block_cartridge_writable_1_l0 d k t0 t7 (IntKind.i64.wrap (t8 + 1))
     else none
    else
     some (.inl ())
def slices_IndexFunc_api_Block_cartridge_writable_1 (d : Nat) (a0 : List (Bool × Bool × List Int)) : Option Int :=
  (slices_IndexFunc_api_Block_cartridge_writable_1_l0 d d a0 (a0.length : Int) 0).bind fun y3 => match y3 with
  | .inl y3 =>
   some (-1)
  | .inr r4 =>
   some r4
def slices_ContainsFunc_api_Block_cartridge_writable_1 (d : Nat) (a0 : List (Bool × Bool × List Int)) : Option Bool :=
  (slices_IndexFunc_api_Block_cartridge_writable_1 d a0).bind fun r1 =>
  some (decide (r1 ≥ 0))
def cartridge_writable (d : Nat) (a0 : ByteArray × (Int × Int × Int × Int × Int × Int) × Bool × Bool × (List (Bool × Bool × List Int)) × Int × Int × Int) (a1 : Int) (a2 : List (Bool × Bool × List Int)) : Option Int :=
  (cartridge_Valid d a0).bind fun r1 =>
  if (!r1) = true then
   some 8
  else
   (slices_ContainsFunc_api_Block_cartridge_writable_1 d a2).bind fun r2 =>
   if r2 = true then
    some 8
   else
    if a0.2.2.2.1 = true then
     some 17
    else
     if (decide (a1 < 0)) = true then
      some 7
     else
      if (decide (a1 > (a0.2.2.2.2.1.length : Int))) = true then
       some 7
      else
       if a0.2.2.1 = true then
        if (decide (a1 < (a0.2.2.2.2.1.length : Int))) = true then
         some 17
        else
         (serpentine_Capacity d a0.2.1).bind fun r3 =>
         if (decide ((IntKind.i64.wrap (a1 + (a2.length : Int))) > r3)) = true then
          some 12
         else
          some 0
       else
        (serpentine_Capacity d a0.2.1).bind fun r4 =>
        if (decide ((IntKind.i64.wrap (a1 + (a2.length : Int))) > r4)) = true then
         some 12
        else
         some 0
def cartridge_with (d : Nat) (a0 : ByteArray × (Int × Int × Int × Int × Int × Int) × Bool × Bool × (List (Bool × Bool × List Int)) × Int × Int × Int) (a1 : List (Bool × Bool × List Int)) : Option ((ByteArray × (Int × Int × Int × Int × Int × Int) × Bool × Bool × (List (Bool × Bool × List Int)) × Int × Int × Int)) :=
  some (a0.1, a0.2.1, a0.2.2.1, a0.2.2.2.1, a1, a0.2.2.2.2.2)
def slices_Clone_byte (d : Nat) (a0 : List Int) : Option (List Int) :=
  if (decide ((0 + a0.length) * 1 ≤ 140737488355328)) = true then some a0 else none
def cartridge_copied_l0 (d : Nat) : Nat → (List (Bool × Bool × List Int)) → Int → Int → (List (Bool × Bool × List Int)) → Option ((List (Bool × Bool × List Int)))
  | 0, _, _, _, _ => none
  | k + 1, t9, t10, t11, h8 =>
    if (decide (t11 < t10)) = true then
     if (decide ((0 : Int) ≤ t11 ∧ t11 < (t9.length : Int))) = true then
      (slices_Clone_byte d (t9.getD t11.toNat zBlock).2.2).bind fun r2 =>
      if (decide ((0 : Int) ≤ t11 ∧ t11 < (h8.length : Int))) = true then
       cartridge_copied_l0 d k t9 t10 (IntKind.i64.wrap (t11 + 1)) (h8.set t11.toNat ((t9.getD t11.toNat zBlock).1, (t9.getD t11.toNat zBlock).2.1, r2))
      else none
     else none
    else
     some h8
def cartridge_copied (d : Nat) (a0 : List (Bool × Bool × List Int)) : Option ((List (Bool × Bool × List Int))) :=
  if (decide (0 ≤ (a0.length : Int) ∧ (a0.length : Int) ≤ (a0.length : Int) ∧ (32 : Int) * (a0.length : Int) ≤ 281474976710656 ∧ (a0.length : Int) ≤ 9223372036854775807)) = true then
   (cartridge_copied_l0 d d a0 (a0.length : Int) 0 (List.replicate (a0.length : Int).toNat (false, false, []))).bind fun y3 =>
   if (decide (0 ≤ (0 : Int) ∧ (0 : Int) ≤ (y3.length : Int) ∧ (y3.length : Int) ≤ (y3.length : Int))) = true then
    if (decide ((y3.length : Int) = (y3.length : Int) ∧ (y3.length : Int) = (y3.length : Int))) = true then
     some y3
    else none
   else none
  else none
def cartridge_Write (d : Nat) (a0 : ByteArray × (Int × Int × Int × Int × Int × Int) × Bool × Bool × (List (Bool × Bool × List Int)) × Int × Int × Int) (a1 : Int) (a2 : List (Bool × Bool × List Int)) : Option ((ByteArray × (Int × Int × Int × Int × Int × Int) × Bool × Bool × (List (Bool × Bool × List Int)) × Int × Int × Int) × Int) :=
  (cartridge_writable d a0 a1 a2).bind fun r1 =>
  if (!decide (r1 = 0)) = true then
   some ((ByteArray.empty, (0, 0, 0, 0, 0, 0), false, false, [], 0, 0, 0), r1)
  else
   if (decide ((a2.length : Int) = 0)) = true then
    (cartridge_copied d a0.2.2.2.2.1).bind fun r2 =>
    (cartridge_with d a0 r2).bind fun r3 =>
    some (r3, 0)
   else
    if (decide (0 ≤ (0 : Int) ∧ (0 : Int) ≤ a1 ∧ a1 ≤ (a0.2.2.2.2.1.length : Int))) = true then
     if (decide (a1 = a1)) = true then
      (cartridge_copied d ((a0.2.2.2.2.1.take a1.toNat).drop 0)).bind fun r4 =>
      (cartridge_copied d a2).bind fun r5 =>
      if (decide ((r4.length + r5.length) * 32 ≤ 140737488355328)) = true then
       (cartridge_with d a0 (r4 ++ r5)).bind fun r6 =>
       some (r6, 0)
      else none
     else none
    else none
def cartridge_Read_1 (d : Nat) (a0 : Bool × Bool × List Int) : Option Bool :=
  some a0.2.1
def slices_IndexFunc_api_Block_cartridge_Read_1_l0 (d : Nat) : Nat → (List (Bool × Bool × List Int)) → Int → Int → Option (Unit ⊕ Int)
  | 0, _, _, _ => none
  | k + 1, t0, t7, t8 =>
    if (decide (t8 < t7)) = true then
     if (decide ((0 : Int) ≤ t8 ∧ t8 < (t0.length : Int))) = true then
      (cartridge_Read_1 d (t0.getD t8.toNat zBlock)).bind fun r2 =>
      if r2 = true then
       some (.inr t8)
      else
       slices_IndexFunc_api_Block_cartridge_Read_1_l0 d k t0 t7 (IntKind.i64.wrap (t8 + 1))
     else none
    else
     some (.inl ())
def slices_IndexFunc_api_Block_cartridge_Read_1 (d : Nat) (a0 : List (Bool × Bool × List Int)) : Option Int :=
  (slices_IndexFunc_api_Block_cartridge_Read_1_l0 d d a0 (a0.length : Int) 0).bind fun y3 => match y3 with
  | .inl y3 =>
   some (-1)
  | .inr r4 =>
   some r4
def cartridge_Read (d : Nat) (a0 : ByteArray × (Int × Int × Int × Int × Int × Int) × Bool × Bool × (List (Bool × Bool × List Int)) × Int × Int × Int) (a1 : Int × Int) : Option ((List (Bool × Bool × List Int)) × Int) :=
  (show Option (((ByteArray × (Int × Int × Int × Int × Int × Int) × Bool × Bool × (List (Bool × Bool × List Int)) × Int × Int × Int) × (Int × Int)) ⊕ ((List (Bool × Bool × List Int)) × Int)) from
   (cartridge_Valid d a0).bind fun r2 =>
   if (!r2) = true then
    some (.inr ([], 8))
   else
    if (decide (a1.1 < 0)) = true then
     some (.inr ([], 7))
    else
     if (decide (a1.2 < 0)) = true then
      some (.inr ([], 7))
     else
      if (decide (a1.2 = 0)) = true then
       some (.inr ([], 0))
      else
       if (decide (a1.1 ≥ (a0.2.2.2.2.1.length : Int))) = true then
        some (.inr ([], 7))
       else
        some (.inl (a0, a1))).bind fun y3 => match y3 with
  | .inl y3 =>
   if (decide (0 ≤ y3.2.1 ∧ y3.2.1 ≤ (y3.1.2.2.2.2.1.length : Int) ∧ (y3.1.2.2.2.2.1.length : Int) ≤ (y3.1.2.2.2.2.1.length : Int))) = true then
    if (decide (0 ≤ (0 : Int) ∧ (0 : Int) ≤ (min y3.2.2 (((y3.1.2.2.2.2.1.take (y3.1.2.2.2.2.1.length : Int).toNat).drop y3.2.1.toNat).length : Int)) ∧ (min y3.2.2 (((y3.1.2.2.2.2.1.take (y3.1.2.2.2.2.1.length : Int).toNat).drop y3.2.1.toNat).length : Int)) ≤ (((y3.1.2.2.2.2.1.take (y3.1.2.2.2.2.1.length : Int).toNat).drop y3.2.1.toNat).length : Int))) = true then
     (slices_IndexFunc_api_Block_cartridge_Read_1 d ((((y3.1.2.2.2.2.1.take (y3.1.2.2.2.2.1.length : Int).toNat).drop y3.2.1.toNat).take (min y3.2.2 (((y3.1.2.2.2.2.1.take (y3.1.2.2.2.2.1.length : Int).toNat).drop y3.2.1.toNat).length : Int)).toNat).drop 0)).bind fun r4 =>
     if (decide (r4 ≥ 0)) = true then
      if (decide (0 ≤ (0 : Int) ∧ (0 : Int) ≤ r4 ∧ r4 ≤ (((y3.1.2.2.2.2.1.take (y3.1.2.2.2.2.1.length : Int).toNat).drop y3.2.1.toNat).length : Int))) = true then
       (cartridge_copied d ((((y3.1.2.2.2.2.1.take (y3.1.2.2.2.2.1.length : Int).toNat).drop y3.2.1.toNat).take r4.toNat).drop 0)).bind fun r5 =>
       some (r5, 15)
      else none
     else
      if (decide ((min y3.2.2 (((y3.1.2.2.2.2.1.take (y3.1.2.2.2.2.1.length : Int).toNat).drop y3.2.1.toNat).length : Int)) < y3.2.2)) = true then
       if (decide (0 ≤ (0 : Int) ∧ (0 : Int) ≤ (min y3.2.2 (((y3.1.2.2.2.2.1.take (y3.1.2.2.2.2.1.length : Int).toNat).drop y3.2.1.toNat).length : Int)) ∧ (min y3.2.2 (((y3.1.2.2.2.2.1.take (y3.1.2.2.2.2.1.length : Int).toNat).drop y3.2.1.toNat).length : Int)) ≤ (((y3.1.2.2.2.2.1.take (y3.1.2.2.2.2.1.length : Int).toNat).drop y3.2.1.toNat).length : Int))) = true then
        (cartridge_copied d ((((y3.1.2.2.2.2.1.take (y3.1.2.2.2.2.1.length : Int).toNat).drop y3.2.1.toNat).take (min y3.2.2 (((y3.1.2.2.2.2.1.take (y3.1.2.2.2.2.1.length : Int).toNat).drop y3.2.1.toNat).length : Int)).toNat).drop 0)).bind fun r6 =>
        some (r6, 7)
       else none
      else
       if (decide (0 ≤ (0 : Int) ∧ (0 : Int) ≤ (min y3.2.2 (((y3.1.2.2.2.2.1.take (y3.1.2.2.2.2.1.length : Int).toNat).drop y3.2.1.toNat).length : Int)) ∧ (min y3.2.2 (((y3.1.2.2.2.2.1.take (y3.1.2.2.2.2.1.length : Int).toNat).drop y3.2.1.toNat).length : Int)) ≤ (((y3.1.2.2.2.2.1.take (y3.1.2.2.2.2.1.length : Int).toNat).drop y3.2.1.toNat).length : Int))) = true then
        (cartridge_copied d ((((y3.1.2.2.2.2.1.take (y3.1.2.2.2.2.1.length : Int).toNat).drop y3.2.1.toNat).take (min y3.2.2 (((y3.1.2.2.2.2.1.take (y3.1.2.2.2.2.1.length : Int).toNat).drop y3.2.1.toNat).length : Int)).toNat).drop 0)).bind fun r7 =>
        some (r7, 0)
       else none
    else none
   else none
  | .inr x => some x
def cartridge_Marks_l1 (d : Nat) : Nat → Int → Int → (List (Bool × Bool × List Int)) → Int → Int → Option (Unit ⊕ (Int × Int))
  | 0, _, _, _, _, _ => none
  | k + 1, t1, t2, t35, t36, t37 =>
    if (decide (t37 < t36)) = true then
     if (decide ((0 : Int) ≤ t37 ∧ t37 < (t35.length : Int))) = true then
      (show Option (Int × Int × Int × (List (Bool × Bool × List Int)) × Int × Int) from
       if (t35.getD t37.toNat zBlock).1 = true then
        if (!(t35.getD t37.toNat zBlock).2.1) = true then
         some (t1, (IntKind.i64.wrap (t2 - 1)), t37, t35, t36, t37)
        else
         some (t1, t2, t37, t35, t36, t37)
       else
        some (t1, t2, t37, t35, t36, t37)).bind fun y6 =>
      if (decide (y6.2.1 = 0)) = true then
       some (.inr ((IntKind.i64.wrap ((IntKind.i64.wrap (y6.1 + y6.2.2.1)) + 1)), 0))
      else
       cartridge_Marks_l1 d k y6.1 y6.2.1 y6.2.2.2.1 y6.2.2.2.2.1 (IntKind.i64.wrap (y6.2.2.2.2.2 + 1))
     else none
    else
     some (.inl ())
def cartridge_Marks (d : Nat) (a0 : ByteArray × (Int × Int × Int × Int × Int × Int) × Bool × Bool × (List (Bool × Bool × List Int)) × Int × Int × Int) (a1 : Int) (a2 : Int) : Option (Int × Int) :=
  (show Option ((Int × Int × (ByteArray × (Int × Int × Int × Int × Int × Int) × Bool × Bool × (List (Bool × Bool × List Int)) × Int × Int × Int)) ⊕ (Int × Int)) from
   (cartridge_Valid d a0).bind fun r2 =>
   if (!r2) = true then
    some (.inr (0, 8))
   else
    if (decide (a1 < 0)) = true then
     some (.inr (0, 7))
    else
     if (decide (a1 > (a0.2.2.2.2.1.length : Int))) = true then
      some (.inr (0, 7))
     else
      if (decide (a2 < 0)) = true then
       some (.inr (0, 7))
      else
       if (decide (a2 = 0)) = true then
        some (.inr (a1, 0))
       else
        some (.inl (a1, a2, a0))).bind fun y3 => match y3 with
  | .inl y3 =>
   if (decide (0 ≤ y3.1 ∧ y3.1 ≤ (y3.2.2.2.2.2.2.1.length : Int) ∧ (y3.2.2.2.2.2.2.1.length : Int) ≤ (y3.2.2.2.2.2.2.1.length : Int))) = true then
    (cartridge_Marks_l1 d d y3.1 y3.2.1 ((y3.2.2.2.2.2.2.1.take (y3.2.2.2.2.2.2.1.length : Int).toNat).drop y3.1.toNat) (((y3.2.2.2.2.2.2.1.take (y3.2.2.2.2.2.2.1.length : Int).toNat).drop y3.1.toNat).length : Int) 0).bind fun y7 => match y7 with
    | .inl y7 =>
     some (0, 11)
    | .inr r8 =>
     some r8
   else none
  | .inr x => some x
def cartridge_Erase (d : Nat) (a0 : ByteArray × (Int × Int × Int × Int × Int × Int) × Bool × Bool × (List (Bool × Bool × List Int)) × Int × Int × Int) : Option ((ByteArray × (Int × Int × Int × Int × Int × Int) × Bool × Bool × (List (Bool × Bool × List Int)) × Int × Int × Int) × Int) :=
  (show Option (((ByteArray × (Int × Int × Int × Int × Int × Int) × Bool × Bool × (List (Bool × Bool × List Int)) × Int × Int × Int) × (ByteArray × (Int × Int × Int × Int × Int × Int) × Bool × Bool × (List (Bool × Bool × List Int)) × Int × Int × Int)) ⊕ ((ByteArray × (Int × Int × Int × Int × Int × Int) × Bool × Bool × (List (Bool × Bool × List Int)) × Int × Int × Int) × Int)) from
   (cartridge_Valid d a0).bind fun r2 =>
   if (!r2) = true then
    some (.inr ((ByteArray.empty, (0, 0, 0, 0, 0, 0), false, false, [], 0, 0, 0), 8))
   else
    if a0.2.2.2.1 = true then
     some (.inr ((ByteArray.empty, (0, 0, 0, 0, 0, 0), false, false, [], 0, 0, 0), 17))
    else
     if a0.2.2.1 = true then
      some (.inr ((ByteArray.empty, (0, 0, 0, 0, 0, 0), false, false, [], 0, 0, 0), 17))
     else
      if (decide (a0.2.2.2.2.2.1 = 1125899906842624)) = true then
       some (.inr ((ByteArray.empty, (0, 0, 0, 0, 0, 0), false, false, [], 0, 0, 0), 7))
      else
       some (.inl (a0, (ByteArray.empty, (0, 0, 0, 0, 0, 0), false, false, [], 0, 0, 0)))).bind fun y3 => match y3 with
  | .inl y3 =>
   (cartridge_with d (y3.1.1, y3.1.2.1, y3.1.2.2.1, y3.1.2.2.2.1, y3.1.2.2.2.2.1, (IntKind.i64.wrap (y3.1.2.2.2.2.2.1 + 1)), y3.1.2.2.2.2.2.2) []).bind fun r4 =>
   some (r4, 0)
  | .inr x => some x
def tapearchivelaw10_awake (d : Nat) : Option Bool :=
  (cartridge_New d ⟨#[65, 49]⟩ (1, 3, 0, 0, 0, 0) false).bind fun r1 =>
  (cartridge_Write d r1.1 0 [(false, false, [120]), (true, false, [])]).bind fun r2 =>
  (cartridge_Marks d r2.1 0 1).bind fun r3 =>
  (cartridge_Read d r2.1 (0, 3)).bind fun r4 =>
  (cartridge_Erase d r2.1).bind fun r5 =>
  if (decide (r1.2 = 0)) = true then
   if (decide (r2.2 = 0)) = true then
    (cartridge_Valid d r2.1).bind fun r6 =>
    if r6 = true then
     if (decide (r3.1 = 2)) = true then
      if (decide (r3.2 = 0)) = true then
       if (decide ((r4.1.length : Int) = 2)) = true then
        if (decide (r4.2 = 7)) = true then
         (cartridge_Free d r2.1).bind fun r7 =>
         if (decide (r7 = 1)) = true then
          if (decide (r5.2 = 0)) = true then
           if (decide (r5.1.2.2.2.2.2.1 = 1)) = true then
            some (decide ((r5.1.2.2.2.2.1.length : Int) = 0))
           else
            some false
          else
           some false
         else
          some false
        else
         some false
       else
        some false
      else
       some false
     else
      some false
    else
     some false
   else
    some false
  else
   some false
def tapearchiveref10_Barcode_l0 (d : Nat) : Nat → ByteArray → Int → Option (ByteArray ⊕ Bool)
  | 0, _, _ => none
  | k + 1, t0, t3 =>
    if (decide (t3 < (t0.size : Int))) = true then
     if (decide ((0 : Int) ≤ t3 ∧ t3 < (ByteArray.size t0 : Int))) = true then
      if (decide ((((ByteArray.data t0).getD t3.toNat 0).toNat : Int) ≥ 65)) = true then
       if (decide ((0 : Int) ≤ t3 ∧ t3 < (ByteArray.size t0 : Int))) = true then
        if (decide ((((ByteArray.data t0).getD t3.toNat 0).toNat : Int) ≤ 90)) = true then
         tapearchiveref10_Barcode_l0 d k t0 (IntKind.i64.wrap (t3 + 1))
        else
         if (decide ((0 : Int) ≤ t3 ∧ t3 < (ByteArray.size t0 : Int))) = true then
          if (decide ((((ByteArray.data t0).getD t3.toNat 0).toNat : Int) ≥ 48)) = true then
           if (decide ((0 : Int) ≤ t3 ∧ t3 < (ByteArray.size t0 : Int))) = true then
            if (!(decide ((((ByteArray.data t0).getD t3.toNat 0).toNat : Int) ≤ 57))) = true then
             some (.inr false)
            else
             tapearchiveref10_Barcode_l0 d k t0 (IntKind.i64.wrap (t3 + 1))
           else none
          else
           some (.inr false)
         else none
       else none
      else
       if (decide ((0 : Int) ≤ t3 ∧ t3 < (ByteArray.size t0 : Int))) = true then
        if (decide ((((ByteArray.data t0).getD t3.toNat 0).toNat : Int) ≥ 48)) = true then
         if (decide ((0 : Int) ≤ t3 ∧ t3 < (ByteArray.size t0 : Int))) = true then
          if (!(decide ((((ByteArray.data t0).getD t3.toNat 0).toNat : Int) ≤ 57))) = true then
           some (.inr false)
          else
           tapearchiveref10_Barcode_l0 d k t0 (IntKind.i64.wrap (t3 + 1))
         else none
        else
         some (.inr false)
       else none
     else none
    else
     some (.inl t0)
def tapearchiveref10_Barcode (d : Nat) (a0 : ByteArray) : Option Bool :=
  (tapearchiveref10_Barcode_l0 d d a0 0).bind fun y2 => match y2 with
  | .inl y2 =>
   if (decide ((y2.size : Int) ≥ 1)) = true then
    some (decide ((y2.size : Int) ≤ 24))
   else
    some false
  | .inr r3 =>
   some r3
def tapearchiveref09_time (d : Nat) (a0 : Int) : Option Bool :=
  if (decide (a0 ≥ 0)) = true then
   some (decide (a0 ≤ 1000000))
  else
   some false
def tapearchiveref09_Valid (d : Nat) (a0 : Int × Int × Int × Int × Int × Int) : Option Bool :=
  (show Option (((Int × Int × Int × Int × Int × Int)) ⊕ Bool) from
   if (decide (a0.1 < 1)) = true then
    some (.inr false)
   else
    if (decide (a0.1 > 32)) = true then
     some (.inr false)
    else
     if (decide (a0.2.1 < 1)) = true then
      some (.inr false)
     else
      if (decide (a0.2.1 > 4096)) = true then
       some (.inr false)
      else
       if (decide ((IntKind.i64.wrap (a0.1 * a0.2.1)) > 4096)) = true then
        some (.inr false)
       else
        some (.inl a0)).bind fun y2 => match y2 with
  | .inl y2 =>
   (tapearchiveref09_time d y2.2.2.1).bind fun r3 =>
   if r3 = true then
    (tapearchiveref09_time d y2.2.2.2.1).bind fun r4 =>
    if r4 = true then
     (tapearchiveref09_time d y2.2.2.2.2.1).bind fun r5 =>
     if r5 = true then
      (tapearchiveref09_time d y2.2.2.2.2.2).bind fun r6 =>
      some r6
     else
      some false
    else
     some false
   else
    some false
  | .inr x => some x
def tapearchiveref10_New (d : Nat) (a0 : ByteArray) (a1 : Int × Int × Int × Int × Int × Int) (a2 : Bool) : Option ((ByteArray × (Int × Int × Int × Int × Int × Int) × Bool × Bool × (List (Bool × Bool × List Int)) × Int × Int × Int) × Int) :=
  (tapearchiveref10_Barcode d a0).bind fun r1 =>
  if (!r1) = true then
   some ((ByteArray.empty, (0, 0, 0, 0, 0, 0), false, false, [], 0, 0, 0), 8)
  else
   (tapearchiveref09_Valid d a1).bind fun r2 =>
   if (!r2) = true then
    some ((ByteArray.empty, (0, 0, 0, 0, 0, 0), false, false, [], 0, 0, 0), 7)
   else
    some ((a0, a1, a2, false, [], 0, 0, 0), 0)
def tapearchiveref09_Capacity (d : Nat) (a0 : Int × Int × Int × Int × Int × Int) : Option Int :=
  (tapearchiveref09_Valid d a0).bind fun r1 =>
  if (!r1) = true then
   some 0
  else
   some (IntKind.i64.wrap (a0.1 * a0.2.1))
def tapearchiveref10_block (d : Nat) (a0 : Bool × Bool × List Int) : Option Bool :=
  if a0.1 = true then
   some (decide ((a0.2.2.length : Int) = 0))
  else
   if (decide ((a0.2.2.length : Int) ≥ 1)) = true then
    some (decide ((a0.2.2.length : Int) ≤ 64))
   else
    some false
def tapearchiveref10_count (d : Nat) (a0 : Int) : Option Bool :=
  if (decide (a0 ≥ 0)) = true then
   some (decide (a0 ≤ 1125899906842624))
  else
   some false
def tapearchiveref10_Valid_l0 (d : Nat) : Nat → Int → (ByteArray × (Int × Int × Int × Int × Int × Int) × Bool × Bool × (List (Bool × Bool × List Int)) × Int × Int × Int) → Option (((ByteArray × (Int × Int × Int × Int × Int × Int) × Bool × Bool × (List (Bool × Bool × List Int)) × Int × Int × Int)) ⊕ Bool)
  | 0, _, _ => none
  | k + 1, t3, h1 =>
    if (decide (t3 < (h1.2.2.2.2.1.length : Int))) = true then
     if (decide ((0 : Int) ≤ t3 ∧ t3 < (h1.2.2.2.2.1.length : Int))) = true then
      (tapearchiveref10_block d (h1.2.2.2.2.1.getD t3.toNat zBlock)).bind fun r7 =>
      if (!r7) = true then
       some (.inr false)
      else
       tapearchiveref10_Valid_l0 d k (IntKind.i64.wrap (t3 + 1)) h1
     else none
    else
     some (.inl h1)
def tapearchiveref10_Valid (d : Nat) (a0 : ByteArray × (Int × Int × Int × Int × Int × Int) × Bool × Bool × (List (Bool × Bool × List Int)) × Int × Int × Int) : Option Bool :=
  (show Option (((ByteArray × (Int × Int × Int × Int × Int × Int) × Bool × Bool × (List (Bool × Bool × List Int)) × Int × Int × Int)) ⊕ Bool) from
   (tapearchiveref10_Barcode d a0.1).bind fun r2 =>
   if (!r2) = true then
    some (.inr false)
   else
    (tapearchiveref09_Valid d a0.2.1).bind fun r3 =>
    if (!r3) = true then
     some (.inr false)
    else
     (tapearchiveref09_Capacity d a0.2.1).bind fun r4 =>
     if (decide ((a0.2.2.2.2.1.length : Int) > r4)) = true then
      some (.inr false)
     else
      some (.inl a0)).bind fun y5 => match y5 with
  | .inl y5 =>
   (tapearchiveref10_Valid_l0 d d 0 y5).bind fun y8 => match y8 with
   | .inl y8 =>
    (tapearchiveref10_count d y8.2.2.2.2.2.1).bind fun r10 =>
    if r10 = true then
     (tapearchiveref10_count d y8.2.2.2.2.2.2.1).bind fun r11 =>
     if r11 = true then
      (tapearchiveref10_count d y8.2.2.2.2.2.2.2).bind fun r12 =>
      some r12
     else
      some false
    else
     some false
   | .inr r9 =>
    some r9
  | .inr x => some x
def tapearchiveref10_SameBlocks_l0 (d : Nat) : Nat → (List (Bool × Bool × List Int)) → (List (Bool × Bool × List Int)) → Int → Option (Unit ⊕ Bool)
  | 0, _, _, _ => none
  | k + 1, t0, t1, t5 =>
    if (decide (t5 < (t0.length : Int))) = true then
     if (decide ((0 : Int) ≤ t5 ∧ t5 < (t0.length : Int))) = true then
      if (decide ((0 : Int) ≤ t5 ∧ t5 < (t1.length : Int))) = true then
       if (!decide ((t0.getD t5.toNat zBlock).1 = (t1.getD t5.toNat zBlock).1)) = true then
        some (.inr false)
       else
        if (decide ((0 : Int) ≤ t5 ∧ t5 < (t0.length : Int))) = true then
         if (decide ((0 : Int) ≤ t5 ∧ t5 < (t1.length : Int))) = true then
          if (!decide ((t0.getD t5.toNat zBlock).2.1 = (t1.getD t5.toNat zBlock).2.1)) = true then
           some (.inr false)
          else
           if (decide ((0 : Int) ≤ t5 ∧ t5 < (t0.length : Int))) = true then
            if (decide ((0 : Int) ≤ t5 ∧ t5 < (t1.length : Int))) = true then
             if (!decide ((strOf (t0.getD t5.toNat zBlock).2.2) = (strOf (t1.getD t5.toNat zBlock).2.2))) = true then
              some (.inr false)
             else
              tapearchiveref10_SameBlocks_l0 d k t0 t1 (IntKind.i64.wrap (t5 + 1))
            else none
           else none
         else none
        else none
      else none
     else none
    else
     some (.inl ())
def tapearchiveref10_SameBlocks (d : Nat) (a0 : List (Bool × Bool × List Int)) (a1 : List (Bool × Bool × List Int)) : Option Bool :=
  if (!decide ((a0.length : Int) = (a1.length : Int))) = true then
   some false
  else
   (tapearchiveref10_SameBlocks_l0 d d a0 a1 0).bind fun y2 => match y2 with
   | .inl y2 =>
    some true
   | .inr r3 =>
    some r3
def tapearchiveref10_Same (d : Nat) (a0 : ByteArray × (Int × Int × Int × Int × Int × Int) × Bool × Bool × (List (Bool × Bool × List Int)) × Int × Int × Int) (a1 : ByteArray × (Int × Int × Int × Int × Int × Int) × Bool × Bool × (List (Bool × Bool × List Int)) × Int × Int × Int) : Option Bool :=
  if (decide (a0.1 = a1.1)) = true then
   if ((decide (a0.2.1.1 = a1.2.1.1)) && ((decide (a0.2.1.2.1 = a1.2.1.2.1)) && ((decide (a0.2.1.2.2.1 = a1.2.1.2.2.1)) && ((decide (a0.2.1.2.2.2.1 = a1.2.1.2.2.2.1)) && ((decide (a0.2.1.2.2.2.2.1 = a1.2.1.2.2.2.2.1)) && (decide (a0.2.1.2.2.2.2.2 = a1.2.1.2.2.2.2.2))))))) = true then
    if (decide (a0.2.2.1 = a1.2.2.1)) = true then
     if (decide (a0.2.2.2.1 = a1.2.2.2.1)) = true then
      (tapearchiveref10_SameBlocks d a0.2.2.2.2.1 a1.2.2.2.2.1).bind fun r1 =>
      if r1 = true then
       if (decide (a0.2.2.2.2.2.1 = a1.2.2.2.2.2.1)) = true then
        if (decide (a0.2.2.2.2.2.2.1 = a1.2.2.2.2.2.2.1)) = true then
         some (decide (a0.2.2.2.2.2.2.2 = a1.2.2.2.2.2.2.2))
        else
         some false
       else
        some false
      else
       some false
     else
      some false
    else
     some false
   else
    some false
  else
   some false
def tapearchiveref10_Free (d : Nat) (a0 : ByteArray × (Int × Int × Int × Int × Int × Int) × Bool × Bool × (List (Bool × Bool × List Int)) × Int × Int × Int) : Option Int :=
  (show Option (((ByteArray × (Int × Int × Int × Int × Int × Int) × Bool × Bool × (List (Bool × Bool × List Int)) × Int × Int × Int)) ⊕ Int) from
   (tapearchiveref10_Valid d a0).bind fun r2 =>
   if (!r2) = true then
    some (.inr 0)
   else
    if a0.2.2.2.1 = true then
     some (.inr 0)
    else
     some (.inl a0)).bind fun y3 => match y3 with
  | .inl y3 =>
   (tapearchiveref09_Capacity d y3.2.1).bind fun r4 =>
   some (IntKind.i64.wrap (r4 - (y3.2.2.2.2.1.length : Int)))
  | .inr x => some x
def tapearchivelaw10_CartridgeNew (d : Nat) (a0 : ByteArray × (Int × Int × Int × Int × Int × Int) × Bool × Bool × (List (Bool × Bool × List Int)) × Int × Int × Int) : Option Bool :=
  (tapearchivelaw10_light d a0).bind fun r1 =>
  if (!r1) = true then
   (tapearchivelaw10_awake d).bind fun r2 =>
   some r2
  else
   (cartridge_New d a0.1 a0.2.1 a0.2.2.1).bind fun r3 =>
   (tapearchiveref10_New d a0.1 a0.2.1 a0.2.2.1).bind fun r4 =>
   (cartridge_Valid d a0).bind fun r5 =>
   (tapearchiveref10_Valid d a0).bind fun r6 =>
   if (decide (r5 = r6)) = true then
    if (decide (r3.2 = r4.2)) = true then
     (tapearchiveref10_Same d r3.1 r4.1).bind fun r7 =>
     if r7 = true then
      (cartridge_Free d a0).bind fun r8 =>
      (tapearchiveref10_Free d a0).bind fun r9 =>
      if (decide (r8 = r9)) = true then
       (tapearchivelaw10_awake d).bind fun r10 =>
       some r10
      else
       some false
     else
      some false
    else
     some false
   else
    some false
def tapearchiveref10_Copied_l0 (d : Nat) : Nat → (List (Bool × Bool × List Int)) → Int → (List (Bool × Bool × List Int)) → Option ((List (Bool × Bool × List Int)))
  | 0, _, _, _ => none
  | k + 1, t0, t4, h2000001 =>
    if (decide (t4 < (t0.length : Int))) = true then
     if (decide ((0 : Int) ≤ t4 ∧ t4 < (t0.length : Int))) = true then
      if (decide ((0 : Int) ≤ t4 ∧ t4 < (t0.length : Int))) = true then
       if (decide ((0 + (t0.getD t4.toNat zBlock).2.2.length) * 1 ≤ 140737488355328)) = true then
        if (decide ((h2000001.length + [((t0.getD t4.toNat zBlock).1, (t0.getD t4.toNat zBlock).2.1, ([] ++ (t0.getD t4.toNat zBlock).2.2))].length) * 32 ≤ 140737488355328)) = true then
         tapearchiveref10_Copied_l0 d k t0 (IntKind.i64.wrap (t4 + 1)) (h2000001 ++ [((t0.getD t4.toNat zBlock).1, (t0.getD t4.toNat zBlock).2.1, ([] ++ (t0.getD t4.toNat zBlock).2.2))])
        else none
       else none
      else none
     else none
    else
     some h2000001
def tapearchiveref10_Copied (d : Nat) (a0 : List (Bool × Bool × List Int)) : Option ((List (Bool × Bool × List Int))) :=
  (tapearchiveref10_Copied_l0 d d a0 0 []).bind fun y3 =>
  some y3
def tapearchiveref10_Write_l0 (d : Nat) : Nat → Int → (List (Bool × Bool × List Int)) → Int → (ByteArray × (Int × Int × Int × Int × Int × Int) × Bool × Bool × (List (Bool × Bool × List Int)) × Int × Int × Int) → (ByteArray × (Int × Int × Int × Int × Int × Int) × Bool × Bool × (List (Bool × Bool × List Int)) × Int × Int × Int) → Option ((Int × (List (Bool × Bool × List Int)) × (ByteArray × (Int × Int × Int × Int × Int × Int) × Bool × Bool × (List (Bool × Bool × List Int)) × Int × Int × Int) × (ByteArray × (Int × Int × Int × Int × Int × Int) × Bool × Bool × (List (Bool × Bool × List Int)) × Int × Int × Int)) ⊕ ((ByteArray × (Int × Int × Int × Int × Int × Int) × Bool × Bool × (List (Bool × Bool × List Int)) × Int × Int × Int) × Int))
  | 0, _, _, _, _, _ => none
  | k + 1, t1, t2, t8, h3, h6 =>
    if (decide (t8 < (t2.length : Int))) = true then
     if (decide ((0 : Int) ≤ t8 ∧ t8 < (t2.length : Int))) = true then
      (tapearchiveref10_block d (t2.getD t8.toNat zBlock)).bind fun r3 =>
      if (!r3) = true then
       some (.inr ((ByteArray.empty, (0, 0, 0, 0, 0, 0), false, false, [], 0, 0, 0), 8))
      else
       if (decide ((0 : Int) ≤ t8 ∧ t8 < (t2.length : Int))) = true then
        if (t2.getD t8.toNat zBlock).2.1 = true then
         some (.inr ((ByteArray.empty, (0, 0, 0, 0, 0, 0), false, false, [], 0, 0, 0), 8))
        else
         tapearchiveref10_Write_l0 d k t1 t2 (IntKind.i64.wrap (t8 + 1)) h3 h6
       else none
     else none
    else
     some (.inl (t1, t2, h3, h6))
def tapearchiveref10_Write (d : Nat) (a0 : ByteArray × (Int × Int × Int × Int × Int × Int) × Bool × Bool × (List (Bool × Bool × List Int)) × Int × Int × Int) (a1 : Int) (a2 : List (Bool × Bool × List Int)) : Option ((ByteArray × (Int × Int × Int × Int × Int × Int) × Bool × Bool × (List (Bool × Bool × List Int)) × Int × Int × Int) × Int) :=
  (tapearchiveref10_Valid d a0).bind fun r1 =>
  if (!r1) = true then
   some ((ByteArray.empty, (0, 0, 0, 0, 0, 0), false, false, [], 0, 0, 0), 8)
  else
   (tapearchiveref10_Write_l0 d d a1 a2 0 a0 (ByteArray.empty, (0, 0, 0, 0, 0, 0), false, false, [], 0, 0, 0)).bind fun y4 => match y4 with
   | .inl y4 =>
    if y4.2.2.1.2.2.2.1 = true then
     some ((ByteArray.empty, (0, 0, 0, 0, 0, 0), false, false, [], 0, 0, 0), 17)
    else
     (show Option ((Int × (List (Bool × Bool × List Int)) × (ByteArray × (Int × Int × Int × Int × Int × Int) × Bool × Bool × (List (Bool × Bool × List Int)) × Int × Int × Int) × (ByteArray × (Int × Int × Int × Int × Int × Int) × Bool × Bool × (List (Bool × Bool × List Int)) × Int × Int × Int)) ⊕ ((ByteArray × (Int × Int × Int × Int × Int × Int) × Bool × Bool × (List (Bool × Bool × List Int)) × Int × Int × Int) × Int)) from
      if (decide (y4.1 < 0)) = true then
       some (.inr ((ByteArray.empty, (0, 0, 0, 0, 0, 0), false, false, [], 0, 0, 0), 7))
      else
       if (decide (y4.1 > (y4.2.2.1.2.2.2.2.1.length : Int))) = true then
        some (.inr ((ByteArray.empty, (0, 0, 0, 0, 0, 0), false, false, [], 0, 0, 0), 7))
       else
        some (.inl (y4.1, y4.2.1, y4.2.2.1, y4.2.2.2))).bind fun y7 => match y7 with
     | .inl y7 =>
      (show Option ((Int × (List (Bool × Bool × List Int)) × (ByteArray × (Int × Int × Int × Int × Int × Int) × Bool × Bool × (List (Bool × Bool × List Int)) × Int × Int × Int) × (ByteArray × (Int × Int × Int × Int × Int × Int) × Bool × Bool × (List (Bool × Bool × List Int)) × Int × Int × Int)) ⊕ ((ByteArray × (Int × Int × Int × Int × Int × Int) × Bool × Bool × (List (Bool × Bool × List Int)) × Int × Int × Int) × Int)) from
       if y7.2.2.1.2.2.1 = true then
        if (decide (y7.1 < (y7.2.2.1.2.2.2.2.1.length : Int))) = true then
         some (.inr ((ByteArray.empty, (0, 0, 0, 0, 0, 0), false, false, [], 0, 0, 0), 17))
        else
         some (.inl (y7.1, y7.2.1, y7.2.2.1, y7.2.2.2))
       else
        some (.inl (y7.1, y7.2.1, y7.2.2.1, y7.2.2.2))).bind fun y9 => match y9 with
      | .inl y9 =>
       (tapearchiveref09_Capacity d y9.2.2.1.2.1).bind fun r10 =>
       if (decide ((y9.2.1.length : Int) > (IntKind.i64.wrap (r10 - y9.1)))) = true then
        some ((ByteArray.empty, (0, 0, 0, 0, 0, 0), false, false, [], 0, 0, 0), 12)
       else
        (tapearchiveref10_Copied d y9.2.2.1.2.2.2.2.1).bind fun r11 =>
        (show Option ((ByteArray × (Int × Int × Int × Int × Int × Int) × Bool × Bool × (List (Bool × Bool × List Int)) × Int × Int × Int) × (ByteArray × (Int × Int × Int × Int × Int × Int) × Bool × Bool × (List (Bool × Bool × List Int)) × Int × Int × Int) × (List (Bool × Bool × List Int))) from
         if (decide ((y9.2.1.length : Int) > 0)) = true then
          if (decide (0 ≤ (0 : Int) ∧ (0 : Int) ≤ y9.1 ∧ y9.1 ≤ (r11.length : Int))) = true then
           (tapearchiveref10_Copied d y9.2.1).bind fun r13 =>
           if (decide (((y9.1.toNat - 0) + r13.length) * 32 ≤ 140737488355328)) = true then
            some (y9.2.2.1, y9.2.2.2, ((r11).take (y9.1.toNat - 0) ++ r13))
           else none
          else none
         else
          some (y9.2.2.1, y9.2.2.2, r11)).bind fun y14 =>
        some ((y14.1.1, y14.1.2.1, y14.1.2.2.1, y14.1.2.2.2.1, y14.2.2, y14.1.2.2.2.2.2), 0)
      | .inr x => some x
     | .inr x => some x
   | .inr r5 =>
    some r5
def tapearchivelaw10_CartridgeWrites (d : Nat) (a0 : ByteArray × (Int × Int × Int × Int × Int × Int) × Bool × Bool × (List (Bool × Bool × List Int)) × Int × Int × Int) (a1 : Int) (a2 : List (Bool × Bool × List Int)) : Option Bool :=
  (show Option ((Int × (List (Bool × Bool × List Int)) × (ByteArray × (Int × Int × Int × Int × Int × Int) × Bool × Bool × (List (Bool × Bool × List Int)) × Int × Int × Int)) ⊕ Bool) from
   (tapearchivelaw10_light d a0).bind fun r2 =>
   if (!r2) = true then
    (tapearchivelaw10_awake d).bind fun r3 =>
    some (.inr r3)
   else
    (tapearchivelaw10_lightBlocks d a2).bind fun r4 =>
    if (!r4) = true then
     (tapearchivelaw10_awake d).bind fun r5 =>
     some (.inr r5)
    else
     some (.inl (a1, a2, a0))).bind fun y6 => match y6 with
  | .inl y6 =>
   (tapearchiveref10_Copied d y6.2.2.2.2.2.2.1).bind fun r7 =>
   (cartridge_Write d y6.2.2 y6.1 y6.2.1).bind fun r8 =>
   (tapearchiveref10_Write d y6.2.2 y6.1 y6.2.1).bind fun r9 =>
   if (decide (r8.2 = r9.2)) = true then
    (tapearchiveref10_Same d r8.1 r9.1).bind fun r10 =>
    if r10 = true then
     (tapearchiveref10_SameBlocks d y6.2.2.2.2.2.2.1 r7).bind fun r11 =>
     if r11 = true then
      (tapearchivelaw10_awake d).bind fun r12 =>
      some r12
     else
      some false
    else
     some false
   else
    some false
  | .inr x => some x
def tapearchiveref10_Read_l0 (d : Nat) : Nat → Int → (ByteArray × (Int × Int × Int × Int × Int × Int) × Bool × Bool × (List (Bool × Bool × List Int)) × Int × Int × Int) → (Int × Int) → (List (Bool × Bool × List Int)) → Option (((List (Bool × Bool × List Int))) ⊕ ((List (Bool × Bool × List Int)) × Int))
  | 0, _, _, _, _ => none
  | k + 1, t7, h2, h3, h2000001 =>
    if (decide (t7 < h3.2)) = true then
     if (decide (h3.1 ≥ (IntKind.i64.wrap ((h2.2.2.2.2.1.length : Int) - t7)))) = true then
      (tapearchiveref10_Copied d h2000001).bind fun r8 =>
      some (.inr (r8, 7))
     else
      if (decide ((0 : Int) ≤ (IntKind.i64.wrap (h3.1 + t7)) ∧ (IntKind.i64.wrap (h3.1 + t7)) < (h2.2.2.2.2.1.length : Int))) = true then
       if (h2.2.2.2.2.1.getD (IntKind.i64.wrap (h3.1 + t7)).toNat zBlock).2.1 = true then
        (tapearchiveref10_Copied d h2000001).bind fun r9 =>
        some (.inr (r9, 15))
       else
        if (decide ((0 : Int) ≤ (IntKind.i64.wrap (h3.1 + t7)) ∧ (IntKind.i64.wrap (h3.1 + t7)) < (h2.2.2.2.2.1.length : Int))) = true then
         if (decide ((h2000001.length + [(h2.2.2.2.2.1.getD (IntKind.i64.wrap (h3.1 + t7)).toNat zBlock)].length) * 32 ≤ 140737488355328)) = true then
          tapearchiveref10_Read_l0 d k (IntKind.i64.wrap (t7 + 1)) h2 h3 (h2000001 ++ [(h2.2.2.2.2.1.getD (IntKind.i64.wrap (h3.1 + t7)).toNat zBlock)])
         else none
        else none
      else none
    else
     some (.inl h2000001)
def tapearchiveref10_Read (d : Nat) (a0 : ByteArray × (Int × Int × Int × Int × Int × Int) × Bool × Bool × (List (Bool × Bool × List Int)) × Int × Int × Int) (a1 : Int × Int) : Option ((List (Bool × Bool × List Int)) × Int) :=
  (tapearchiveref10_Valid d a0).bind fun r1 =>
  if (!r1) = true then
   some ([], 8)
  else
   (show Option (((ByteArray × (Int × Int × Int × Int × Int × Int) × Bool × Bool × (List (Bool × Bool × List Int)) × Int × Int × Int) × (Int × Int)) ⊕ ((List (Bool × Bool × List Int)) × Int)) from
    if (decide (a1.1 < 0)) = true then
     some (.inr ([], 7))
    else
     if (decide (a1.2 < 0)) = true then
      some (.inr ([], 7))
     else
      some (.inl (a0, a1))).bind fun y3 => match y3 with
   | .inl y3 =>
    (tapearchiveref10_Read_l0 d d 0 y3.1 y3.2 []).bind fun y10 => match y10 with
    | .inl y10 =>
     (tapearchiveref10_Copied d y10).bind fun r12 =>
     some (r12, 0)
    | .inr r11 =>
     some r11
   | .inr x => some x
def tapearchiveref10_Marks_l0 (d : Nat) : Nat → Int → Int → (ByteArray × (Int × Int × Int × Int × Int × Int) × Bool × Bool × (List (Bool × Bool × List Int)) × Int × Int × Int) → Option (Int ⊕ (Int × Int))
  | 0, _, _, _ => none
  | k + 1, t1, t2, h3 =>
    if (decide (t2 > 0)) = true then
     if (decide (t1 = (h3.2.2.2.2.1.length : Int))) = true then
      some (.inr (0, 11))
     else
      if (decide ((0 : Int) ≤ t1 ∧ t1 < (h3.2.2.2.2.1.length : Int))) = true then
       if (h3.2.2.2.2.1.getD t1.toNat zBlock).1 = true then
        if (decide ((0 : Int) ≤ t1 ∧ t1 < (h3.2.2.2.2.1.length : Int))) = true then
         if (!(h3.2.2.2.2.1.getD t1.toNat zBlock).2.1) = true then
          tapearchiveref10_Marks_l0 d k (IntKind.i64.wrap (t1 + 1)) (IntKind.i64.wrap (t2 - 1)) h3
         else
          tapearchiveref10_Marks_l0 d k (IntKind.i64.wrap (t1 + 1)) t2 h3
        else none
       else
        tapearchiveref10_Marks_l0 d k (IntKind.i64.wrap (t1 + 1)) t2 h3
      else none
    else
     some (.inl t1)
def tapearchiveref10_Marks (d : Nat) (a0 : ByteArray × (Int × Int × Int × Int × Int × Int) × Bool × Bool × (List (Bool × Bool × List Int)) × Int × Int × Int) (a1 : Int) (a2 : Int) : Option (Int × Int) :=
  (tapearchiveref10_Valid d a0).bind fun r1 =>
  if (!r1) = true then
   some (0, 8)
  else
   (show Option ((Int × Int × (ByteArray × (Int × Int × Int × Int × Int × Int) × Bool × Bool × (List (Bool × Bool × List Int)) × Int × Int × Int)) ⊕ (Int × Int)) from
    if (decide (a1 < 0)) = true then
     some (.inr (0, 7))
    else
     if (decide (a1 > (a0.2.2.2.2.1.length : Int))) = true then
      some (.inr (0, 7))
     else
      if (decide (a2 < 0)) = true then
       some (.inr (0, 7))
      else
       some (.inl (a1, a2, a0))).bind fun y3 => match y3 with
   | .inl y3 =>
    (tapearchiveref10_Marks_l0 d d y3.1 y3.2.1 y3.2.2).bind fun y5 => match y5 with
    | .inl y5 =>
     some (y5, 0)
    | .inr r6 =>
     some r6
   | .inr x => some x
def tapearchivelaw10_CartridgeReads (d : Nat) (a0 : ByteArray × (Int × Int × Int × Int × Int × Int) × Bool × Bool × (List (Bool × Bool × List Int)) × Int × Int × Int) (a1 : Int × Int) (a2 : Int) : Option Bool :=
  (tapearchivelaw10_light d a0).bind fun r1 =>
  if (!r1) = true then
   (tapearchivelaw10_awake d).bind fun r2 =>
   some r2
  else
   (cartridge_Read d a0 a1).bind fun r3 =>
   (tapearchiveref10_Read d a0 a1).bind fun r4 =>
   (cartridge_Marks d a0 a1.1 a2).bind fun r5 =>
   (tapearchiveref10_Marks d a0 a1.1 a2).bind fun r6 =>
   if (decide (r3.2 = r4.2)) = true then
    (tapearchiveref10_SameBlocks d r3.1 r4.1).bind fun r7 =>
    if r7 = true then
     if (decide (r5.2 = r6.2)) = true then
      if (decide (r5.1 = r6.1)) = true then
       (tapearchivelaw10_awake d).bind fun r8 =>
       some r8
      else
       some false
     else
      some false
    else
     some false
   else
    some false
def tapearchivelaw10_CartridgeAppends (d : Nat) (a0 : ByteArray × (Int × Int × Int × Int × Int × Int) × Bool × Bool × (List (Bool × Bool × List Int)) × Int × Int × Int) (a1 : List (Bool × Bool × List Int)) : Option Bool :=
  (show Option (((List (Bool × Bool × List Int)) × (ByteArray × (Int × Int × Int × Int × Int × Int) × Bool × Bool × (List (Bool × Bool × List Int)) × Int × Int × Int)) ⊕ Bool) from
   (tapearchivelaw10_light d a0).bind fun r2 =>
   if (!r2) = true then
    (tapearchivelaw10_awake d).bind fun r3 =>
    some (.inr r3)
   else
    (tapearchivelaw10_lightBlocks d a1).bind fun r4 =>
    if (!r4) = true then
     (tapearchivelaw10_awake d).bind fun r5 =>
     some (.inr r5)
    else
     some (.inl (a1, a0))).bind fun y6 => match y6 with
  | .inl y6 =>
   (cartridge_Write d y6.2 (y6.2.2.2.2.2.1.length : Int) y6.1).bind fun r7 =>
   if (!decide (r7.2 = 0)) = true then
    (tapearchiveref10_Valid d y6.2).bind fun r8 =>
    if (!r8) = true then
     (tapearchivelaw10_awake d).bind fun r9 =>
     some r9
    else
     if (!decide (r7.2 = 7)) = true then
      (tapearchivelaw10_awake d).bind fun r10 =>
      some r10
     else
      some false
   else
    (cartridge_Read d r7.1 ((y6.2.2.2.2.2.1.length : Int), (y6.1.length : Int))).bind fun r11 =>
    if (decide (r11.2 = 0)) = true then
     (tapearchiveref10_SameBlocks d r11.1 y6.1).bind fun r12 =>
     if r12 = true then
      if (decide ((r7.1.2.2.2.2.1.length : Int) = (IntKind.i64.wrap ((y6.2.2.2.2.2.1.length : Int) + (y6.1.length : Int))))) = true then
       if (decide (0 ≤ (0 : Int) ∧ (0 : Int) ≤ (y6.2.2.2.2.2.1.length : Int) ∧ (y6.2.2.2.2.2.1.length : Int) ≤ (r7.1.2.2.2.2.1.length : Int))) = true then
        (tapearchiveref10_SameBlocks d ((r7.1.2.2.2.2.1.take (y6.2.2.2.2.2.1.length : Int).toNat).drop 0) y6.2.2.2.2.2.1).bind fun r13 =>
        if r13 = true then
         (cartridge_Free d r7.1).bind fun r14 =>
         (cartridge_Free d y6.2).bind fun r15 =>
         if (decide (r14 = (IntKind.i64.wrap (r15 - (y6.1.length : Int))))) = true then
          (cartridge_Valid d r7.1).bind fun r16 =>
          if r16 = true then
           (tapearchivelaw10_awake d).bind fun r17 =>
           some r17
          else
           some false
         else
          some false
        else
         some false
       else none
      else
       some false
     else
      some false
    else
     some false
  | .inr x => some x
def tapearchivelaw10_CartridgeKeeps_l0 (d : Nat) : Nat → (List (Bool × Int × List (Bool × Bool × List Int))) → Int → (ByteArray × (Int × Int × Int × Int × Int × Int) × Bool × Bool × (List (Bool × Bool × List Int)) × Int × Int × Int) → (ByteArray × (Int × Int × Int × Int × Int × Int) × Bool × Bool × (List (Bool × Bool × List Int)) × Int × Int × Int) → Option (Unit ⊕ Bool)
  | 0, _, _, _, _ => none
  | k + 1, t1, t6, h2, h5 =>
    if (decide (t6 < (t1.length : Int))) = true then
     if (decide ((0 : Int) ≤ t6 ∧ t6 < (t1.length : Int))) = true then
      (tapearchivelaw10_lightBlocks d (t1.getD t6.toNat ztapearchivelaw10_Step).2.2).bind fun r10 =>
      if (!r10) = true then
       (tapearchivelaw10_awake d).bind fun r11 =>
       some (.inr r11)
      else
       if (decide ((0 : Int) ≤ t6 ∧ t6 < (t1.length : Int))) = true then
        if (decide ((0 : Int) ≤ t6 ∧ t6 < (t1.length : Int))) = true then
         (cartridge_Write d h5 (t1.getD t6.toNat ztapearchivelaw10_Step).2.1 (t1.getD t6.toNat ztapearchivelaw10_Step).2.2).bind fun r12 =>
         (show Option ((List (Bool × Int × List (Bool × Bool × List Int))) × Int × Int × (ByteArray × (Int × Int × Int × Int × Int × Int) × Bool × Bool × (List (Bool × Bool × List Int)) × Int × Int × Int) × (ByteArray × (Int × Int × Int × Int × Int × Int) × Bool × Bool × (List (Bool × Bool × List Int)) × Int × Int × Int) × (ByteArray × (Int × Int × Int × Int × Int × Int) × Bool × Bool × (List (Bool × Bool × List Int)) × Int × Int × Int)) from
          if (decide ((0 : Int) ≤ t6 ∧ t6 < (t1.length : Int))) = true then
           if (t1.getD t6.toNat ztapearchivelaw10_Step).1 = true then
            (cartridge_Erase d h5).bind fun r14 =>
            some (t1, t6, r14.2, h2, h5, r14.1)
           else
            some (t1, t6, r12.2, h2, h5, r12.1)
          else none).bind fun y15 =>
         if (!decide (y15.2.2.1 = 0)) = true then
          tapearchivelaw10_CartridgeKeeps_l0 d k y15.1 (IntKind.i64.wrap (y15.2.1 + 1)) y15.2.2.2.1 y15.2.2.2.2.1
         else
          if (decide ((y15.2.2.2.2.2.2.2.2.2.1.length : Int) < (y15.2.2.2.2.1.2.2.2.2.1.length : Int))) = true then
           some (.inr false)
          else
           if (decide (0 ≤ (0 : Int) ∧ (0 : Int) ≤ (y15.2.2.2.2.1.2.2.2.2.1.length : Int) ∧ (y15.2.2.2.2.1.2.2.2.2.1.length : Int) ≤ (y15.2.2.2.2.2.2.2.2.2.1.length : Int))) = true then
            (tapearchiveref10_SameBlocks d ((y15.2.2.2.2.2.2.2.2.2.1.take (y15.2.2.2.2.1.2.2.2.2.1.length : Int).toNat).drop 0) y15.2.2.2.2.1.2.2.2.2.1).bind fun r16 =>
            if (!r16) = true then
             some (.inr false)
            else
             if (!decide (y15.2.2.2.2.2.2.2.2.2.2.1 = y15.2.2.2.1.2.2.2.2.2.1)) = true then
              some (.inr false)
             else
              tapearchivelaw10_CartridgeKeeps_l0 d k y15.1 (IntKind.i64.wrap (y15.2.1 + 1)) y15.2.2.2.1 y15.2.2.2.2.2
           else none
        else none
       else none
     else none
    else
     some (.inl ())
def tapearchivelaw10_CartridgeKeeps (d : Nat) (a0 : ByteArray × (Int × Int × Int × Int × Int × Int) × Bool × Bool × (List (Bool × Bool × List Int)) × Int × Int × Int) (a1 : List (Bool × Int × List (Bool × Bool × List Int))) : Option Bool :=
  (show Option (((List (Bool × Int × List (Bool × Bool × List Int))) × (ByteArray × (Int × Int × Int × Int × Int × Int) × Bool × Bool × (List (Bool × Bool × List Int)) × Int × Int × Int)) ⊕ Bool) from
   (tapearchivelaw10_light d a0).bind fun r2 =>
   if (!r2) = true then
    (tapearchivelaw10_awake d).bind fun r3 =>
    some (.inr r3)
   else
    if (decide ((a1.length : Int) > 20)) = true then
     (tapearchivelaw10_awake d).bind fun r4 =>
     some (.inr r4)
    else
     if (!a0.2.2.1) = true then
      (tapearchivelaw10_awake d).bind fun r5 =>
      some (.inr r5)
     else
      (tapearchiveref10_Valid d a0).bind fun r6 =>
      if (!r6) = true then
       (tapearchivelaw10_awake d).bind fun r7 =>
       some (.inr r7)
      else
       some (.inl (a1, a0))).bind fun y8 => match y8 with
  | .inl y8 =>
   (tapearchivelaw10_CartridgeKeeps_l0 d d y8.1 0 y8.2 y8.2).bind fun y17 => match y17 with
   | .inl y17 =>
    (tapearchivelaw10_awake d).bind fun r19 =>
    some r19
   | .inr r18 =>
    some r18
  | .inr x => some x
def tapearchivelaw10_CartridgeCounts_l0 (d : Nat) : Nat → Int → Int → Int → Int → Int → (ByteArray × (Int × Int × Int × Int × Int × Int) × Bool × Bool × (List (Bool × Bool × List Int)) × Int × Int × Int) → Option ((Int × Int × Int) ⊕ Bool)
  | 0, _, _, _, _, _, _ => none
  | k + 1, t1, t2, t7, t8, t9, h3 =>
    if (decide (t9 < t2)) = true then
     (cartridge_Marks d h3 t1 1).bind fun r9 =>
     if (!decide (r9.2 = 0)) = true then
      if (decide (t8 = r9.2)) = true then
       if (decide (t7 = 0)) = true then
        (tapearchivelaw10_awake d).bind fun r10 =>
        some (.inr r10)
       else
        some (.inr false)
      else
       some (.inr false)
     else
      if (decide (r9.1 ≤ t1)) = true then
       some (.inr false)
      else
       if (decide (r9.1 > (h3.2.2.2.2.1.length : Int))) = true then
        some (.inr false)
       else
        if (decide ((0 : Int) ≤ (IntKind.i64.wrap (r9.1 - 1)) ∧ (IntKind.i64.wrap (r9.1 - 1)) < (h3.2.2.2.2.1.length : Int))) = true then
         if (!(h3.2.2.2.2.1.getD (IntKind.i64.wrap (r9.1 - 1)).toNat zBlock).1) = true then
          some (.inr false)
         else
          tapearchivelaw10_CartridgeCounts_l0 d k r9.1 t2 t7 t8 (IntKind.i64.wrap (t9 + 1)) h3
        else none
    else
     some (.inl (t1, t7, t8))
def tapearchivelaw10_CartridgeCounts (d : Nat) (a0 : ByteArray × (Int × Int × Int × Int × Int × Int) × Bool × Bool × (List (Bool × Bool × List Int)) × Int × Int × Int) (a1 : Int) (a2 : Int) : Option Bool :=
  (show Option ((Int × Int × (ByteArray × (Int × Int × Int × Int × Int × Int) × Bool × Bool × (List (Bool × Bool × List Int)) × Int × Int × Int)) ⊕ Bool) from
   (tapearchivelaw10_light d a0).bind fun r2 =>
   if (!r2) = true then
    (tapearchivelaw10_awake d).bind fun r3 =>
    some (.inr r3)
   else
    if (decide (a2 < 0)) = true then
     (tapearchivelaw10_awake d).bind fun r4 =>
     some (.inr r4)
    else
     if (decide (a2 > 300)) = true then
      (tapearchivelaw10_awake d).bind fun r5 =>
      some (.inr r5)
     else
      some (.inl (a1, a2, a0))).bind fun y6 => match y6 with
  | .inl y6 =>
   (cartridge_Marks d y6.2.2 y6.1 y6.2.1).bind fun r7 =>
   (tapearchivelaw10_CartridgeCounts_l0 d d y6.1 y6.2.1 r7.1 r7.2 0 y6.2.2).bind fun y11 => match y11 with
   | .inl y11 =>
    if (!decide (y11.2.2 = 0)) = true then
     (tapearchivelaw10_awake d).bind fun r13 =>
     some r13
    else
     if (decide (y11.2.1 = y11.1)) = true then
      (tapearchivelaw10_awake d).bind fun r14 =>
      some r14
     else
      some false
   | .inr r12 =>
    some r12
  | .inr x => some x
def tapearchiveref10_Erase (d : Nat) (a0 : ByteArray × (Int × Int × Int × Int × Int × Int) × Bool × Bool × (List (Bool × Bool × List Int)) × Int × Int × Int) : Option ((ByteArray × (Int × Int × Int × Int × Int × Int) × Bool × Bool × (List (Bool × Bool × List Int)) × Int × Int × Int) × Int) :=
  (tapearchiveref10_Valid d a0).bind fun r1 =>
  if (!r1) = true then
   some ((ByteArray.empty, (0, 0, 0, 0, 0, 0), false, false, [], 0, 0, 0), 8)
  else
   (show Option (((ByteArray × (Int × Int × Int × Int × Int × Int) × Bool × Bool × (List (Bool × Bool × List Int)) × Int × Int × Int) × (ByteArray × (Int × Int × Int × Int × Int × Int) × Bool × Bool × (List (Bool × Bool × List Int)) × Int × Int × Int)) ⊕ ((ByteArray × (Int × Int × Int × Int × Int × Int) × Bool × Bool × (List (Bool × Bool × List Int)) × Int × Int × Int) × Int)) from
    if a0.2.2.2.1 = true then
     some (.inr ((ByteArray.empty, (0, 0, 0, 0, 0, 0), false, false, [], 0, 0, 0), 17))
    else
     if a0.2.2.1 = true then
      some (.inr ((ByteArray.empty, (0, 0, 0, 0, 0, 0), false, false, [], 0, 0, 0), 17))
     else
      some (.inl (a0, (ByteArray.empty, (0, 0, 0, 0, 0, 0), false, false, [], 0, 0, 0)))).bind fun y3 => match y3 with
   | .inl y3 =>
    if (decide (y3.1.2.2.2.2.2.1 = 1125899906842624)) = true then
     some ((ByteArray.empty, (0, 0, 0, 0, 0, 0), false, false, [], 0, 0, 0), 7)
    else
     some ((y3.1.1, y3.1.2.1, y3.1.2.2.1, y3.1.2.2.2.1, [], (IntKind.i64.wrap (y3.1.2.2.2.2.2.1 + 1)), y3.1.2.2.2.2.2.2), 0)
   | .inr x => some x
def cartridge_Damage_l0 (d : Nat) : Nat → Int → Int → (ByteArray × (Int × Int × Int × Int × Int × Int) × Bool × Bool × (List (Bool × Bool × List Int)) × Int × Int × Int) → (ByteArray × (Int × Int × Int × Int × Int × Int) × Bool × Bool × (List (Bool × Bool × List Int)) × Int × Int × Int) → (List (Bool × Bool × List Int)) → Option ((ByteArray × (Int × Int × Int × Int × Int × Int) × Bool × Bool × (List (Bool × Bool × List Int)) × Int × Int × Int) × (ByteArray × (Int × Int × Int × Int × Int × Int) × Bool × Bool × (List (Bool × Bool × List Int)) × Int × Int × Int) × (List (Bool × Bool × List Int)))
  | 0, _, _, _, _, _ => none
  | k + 1, t6, t7, h2, h4, h1000224 =>
    if (decide (t7 < t6)) = true then
     if (decide ((0 : Int) ≤ t7 ∧ t7 < (h1000224.length : Int))) = true then
      cartridge_Damage_l0 d k t6 (IntKind.i64.wrap (t7 + 1)) h2 h4 (h1000224.set t7.toNat ((h1000224.getD t7.toNat zBlock).1, true, (h1000224.getD t7.toNat zBlock).2.2))
     else none
    else
     some (h2, h4, h1000224)
def cartridge_Damage (d : Nat) (a0 : ByteArray × (Int × Int × Int × Int × Int × Int) × Bool × Bool × (List (Bool × Bool × List Int)) × Int × Int × Int) (a1 : Int × Int) : Option ((ByteArray × (Int × Int × Int × Int × Int × Int) × Bool × Bool × (List (Bool × Bool × List Int)) × Int × Int × Int)) :=
  (cartridge_Valid d a0).bind fun r1 =>
  if (!r1) = true then
   some (ByteArray.empty, (0, 0, 0, 0, 0, 0), false, false, [], 0, 0, 0)
  else
   (cartridge_copied d a0.2.2.2.2.1).bind fun r2 =>
   (show Option ((ByteArray × (Int × Int × Int × Int × Int × Int) × Bool × Bool × (List (Bool × Bool × List Int)) × Int × Int × Int) × (ByteArray × (Int × Int × Int × Int × Int × Int) × Bool × Bool × (List (Bool × Bool × List Int)) × Int × Int × Int) × (List (Bool × Bool × List Int))) from
    if (decide (a1.2 ≥ 1)) = true then
     if (decide (a1.1 < (r2.length : Int))) = true then
      (show Option (Int × (ByteArray × (Int × Int × Int × Int × Int × Int) × Bool × Bool × (List (Bool × Bool × List Int)) × Int × Int × Int) × (Int × Int) × (ByteArray × (Int × Int × Int × Int × Int × Int) × Bool × Bool × (List (Bool × Bool × List Int)) × Int × Int × Int) × (List (Bool × Bool × List Int))) from
       if (decide (a1.1 < 0)) = true then
        some ((min (r2.length : Int) (IntKind.i64.wrap (a1.1 + a1.2))), a0, a1, (ByteArray.empty, (0, 0, 0, 0, 0, 0), false, false, [], 0, 0, 0), r2)
       else
        if (decide (a1.2 < (IntKind.i64.wrap ((r2.length : Int) - a1.1)))) = true then
         some ((min (r2.length : Int) (IntKind.i64.wrap (a1.1 + a1.2))), a0, a1, (ByteArray.empty, (0, 0, 0, 0, 0, 0), false, false, [], 0, 0, 0), r2)
        else
         some ((r2.length : Int), a0, a1, (ByteArray.empty, (0, 0, 0, 0, 0, 0), false, false, [], 0, 0, 0), r2)).bind fun y5 =>
      (cartridge_Damage_l0 d d y5.1 (max y5.2.2.1.1 0) y5.2.1 y5.2.2.2.1 y5.2.2.2.2).bind fun y7 =>
      some (y7.1, y7.2.1, y7.2.2)
     else
      some (a0, (ByteArray.empty, (0, 0, 0, 0, 0, 0), false, false, [], 0, 0, 0), r2)
    else
     some (a0, (ByteArray.empty, (0, 0, 0, 0, 0, 0), false, false, [], 0, 0, 0), r2)).bind fun y8 =>
   (cartridge_with d y8.1 y8.2.2).bind fun r9 =>
   some r9
def tapearchiveref10_Damage_l0 (d : Nat) : Nat → Int → (ByteArray × (Int × Int × Int × Int × Int × Int) × Bool × Bool × (List (Bool × Bool × List Int)) × Int × Int × Int) → (Int × Int) → (ByteArray × (Int × Int × Int × Int × Int × Int) × Bool × Bool × (List (Bool × Bool × List Int)) × Int × Int × Int) → (List (Bool × Bool × List Int)) → Option ((ByteArray × (Int × Int × Int × Int × Int × Int) × Bool × Bool × (List (Bool × Bool × List Int)) × Int × Int × Int) × (ByteArray × (Int × Int × Int × Int × Int × Int) × Bool × Bool × (List (Bool × Bool × List Int)) × Int × Int × Int) × (List (Bool × Bool × List Int)))
  | 0, _, _, _, _, _ => none
  | k + 1, t6, h2, h3, h4, h1000208 =>
    if (decide (t6 < (h1000208.length : Int))) = true then
     if (decide (h3.2 ≥ 1)) = true then
      if (decide (h3.1 < 0)) = true then
       if (decide ((IntKind.i64.wrap (h3.1 + h3.2)) > t6)) = true then
        if (decide ((0 : Int) ≤ t6 ∧ t6 < (h1000208.length : Int))) = true then
         tapearchiveref10_Damage_l0 d k (IntKind.i64.wrap (t6 + 1)) h2 h3 h4 (h1000208.set t6.toNat ((h1000208.getD t6.toNat zBlock).1, true, (h1000208.getD t6.toNat zBlock).2.2))
        else none
       else
        if (decide (h3.1 ≥ 0)) = true then
         if (decide (t6 ≥ h3.1)) = true then
          if (decide ((IntKind.i64.wrap (t6 - h3.1)) < h3.2)) = true then
           if (decide ((0 : Int) ≤ t6 ∧ t6 < (h1000208.length : Int))) = true then
            tapearchiveref10_Damage_l0 d k (IntKind.i64.wrap (t6 + 1)) h2 h3 h4 (h1000208.set t6.toNat ((h1000208.getD t6.toNat zBlock).1, true, (h1000208.getD t6.toNat zBlock).2.2))
           else none
          else
           tapearchiveref10_Damage_l0 d k (IntKind.i64.wrap (t6 + 1)) h2 h3 h4 h1000208
         else
          tapearchiveref10_Damage_l0 d k (IntKind.i64.wrap (t6 + 1)) h2 h3 h4 h1000208
        else
         tapearchiveref10_Damage_l0 d k (IntKind.i64.wrap (t6 + 1)) h2 h3 h4 h1000208
      else
       if (decide (h3.1 ≥ 0)) = true then
        if (decide (t6 ≥ h3.1)) = true then
         if (decide ((IntKind.i64.wrap (t6 - h3.1)) < h3.2)) = true then
          if (decide ((0 : Int) ≤ t6 ∧ t6 < (h1000208.length : Int))) = true then
           tapearchiveref10_Damage_l0 d k (IntKind.i64.wrap (t6 + 1)) h2 h3 h4 (h1000208.set t6.toNat ((h1000208.getD t6.toNat zBlock).1, true, (h1000208.getD t6.toNat zBlock).2.2))
          else none
         else
          tapearchiveref10_Damage_l0 d k (IntKind.i64.wrap (t6 + 1)) h2 h3 h4 h1000208
        else
         tapearchiveref10_Damage_l0 d k (IntKind.i64.wrap (t6 + 1)) h2 h3 h4 h1000208
       else
        tapearchiveref10_Damage_l0 d k (IntKind.i64.wrap (t6 + 1)) h2 h3 h4 h1000208
     else
      tapearchiveref10_Damage_l0 d k (IntKind.i64.wrap (t6 + 1)) h2 h3 h4 h1000208
    else
     some (h2, h4, h1000208)
def tapearchiveref10_Damage (d : Nat) (a0 : ByteArray × (Int × Int × Int × Int × Int × Int) × Bool × Bool × (List (Bool × Bool × List Int)) × Int × Int × Int) (a1 : Int × Int) : Option ((ByteArray × (Int × Int × Int × Int × Int × Int) × Bool × Bool × (List (Bool × Bool × List Int)) × Int × Int × Int)) :=
  (tapearchiveref10_Valid d a0).bind fun r1 =>
  if (!r1) = true then
   some (ByteArray.empty, (0, 0, 0, 0, 0, 0), false, false, [], 0, 0, 0)
  else
   (tapearchiveref10_Copied d a0.2.2.2.2.1).bind fun r2 =>
   (tapearchiveref10_Damage_l0 d d 0 a0 a1 (ByteArray.empty, (0, 0, 0, 0, 0, 0), false, false, [], 0, 0, 0) r2).bind fun y4 =>
   some (y4.1.1, y4.1.2.1, y4.1.2.2.1, y4.1.2.2.2.1, y4.2.2, y4.1.2.2.2.2.2)
def tapearchivelaw10_CartridgeErases (d : Nat) (a0 : ByteArray × (Int × Int × Int × Int × Int × Int) × Bool × Bool × (List (Bool × Bool × List Int)) × Int × Int × Int) (a1 : Int × Int) : Option Bool :=
  (tapearchivelaw10_light d a0).bind fun r1 =>
  if (!r1) = true then
   (tapearchivelaw10_awake d).bind fun r2 =>
   some r2
  else
   (cartridge_Erase d a0).bind fun r3 =>
   (tapearchiveref10_Erase d a0).bind fun r4 =>
   if (decide (r3.2 = r4.2)) = true then
    (tapearchiveref10_Same d r3.1 r4.1).bind fun r5 =>
    if r5 = true then
     (cartridge_Damage d a0 a1).bind fun r6 =>
     (tapearchiveref10_Damage d a0 a1).bind fun r7 =>
     (tapearchiveref10_Same d r6 r7).bind fun r8 =>
     if r8 = true then
      (tapearchivelaw10_awake d).bind fun r9 =>
      some r9
     else
      some false
    else
     some false
   else
    some false
end Go.Proofs.Ytiaafpihoikeeaa.Den.G10
