/- The plain functions of the Go code: written by emit.py. -/
import Derived.Test.YtlkjklacanedoaaDenA
set_option linter.unusedVariables false
namespace Go.Proofs.Ytlkjklacanedoaa.Den.G11
open Go.Proofs.Ytlkjklacanedoaa.Den Go
abbrev kSpan : K := .pair (.int .i64) (.int .i64)
abbrev zSpan : Int × Int := (0, 0)
abbrev kPlace : K := .pair (.int .i64) (.pair (.int .i64) .bool)
abbrev zPlace : Int × Int × Bool := (0, 0, false)
abbrev kBlock : K := .pair .bool (.pair .bool (.slice (.int .u8)))
abbrev zBlock : Bool × Bool × List Int := (false, false, [])
abbrev kDriveModel : K := .pair (.int .i64) (.pair (.int .i64) (.pair (.int .i64) kSpan))
abbrev zDriveModel : Int × Int × Int × Int × Int := (0, 0, 0, 0, 0)
abbrev kDrive : K := .pair (.int .i64) (.pair .str (.pair (.int .i64) (.pair (.int .i64) kSpan)))
abbrev zDrive : Int × ByteArray × Int × Int × Int × Int := (0, ByteArray.empty, 0, 0, 0, 0)
abbrev kGeometry : K := .pair (.int .i64) kDriveModel
abbrev zGeometry : Int × Int × Int × Int × Int × Int := (0, 0, 0, 0, 0, 0)
abbrev ktapearchivelaw11_Step : K := .pair (.int .i64) (.pair (.int .i64) (.pair (.int .i64) (.slice kBlock)))
abbrev ztapearchivelaw11_Step : Int × Int × Int × List (Bool × Bool × List Int) := (0, 0, 0, [])
abbrev kCartridge : K := .pair .str (.pair kGeometry (.pair .bool (.pair .bool (.pair (.slice kBlock) (.pair (.int .i64) kSpan)))))
abbrev zCartridge : ByteArray × (Int × Int × Int × Int × Int × Int) × Bool × Bool × (List (Bool × Bool × List Int)) × Int × Int × Int := (ByteArray.empty, (0, 0, 0, 0, 0, 0), false, false, [], 0, 0, 0)
abbrev kdrive_done : K := .pair kDrive (.pair kCartridge kSpan)
abbrev zdrive_done : (Int × ByteArray × Int × Int × Int × Int) × (ByteArray × (Int × Int × Int × Int × Int × Int) × Bool × Bool × (List (Bool × Bool × List Int)) × Int × Int × Int) × Int × Int := ((0, ByteArray.empty, 0, 0, 0, 0), (ByteArray.empty, (0, 0, 0, 0, 0, 0), false, false, [], 0, 0, 0), 0, 0)
abbrev ktapearchivelaw11_Done : K := .pair kDrive (.pair kCartridge (.pair (.slice kBlock) kSpan))
abbrev ztapearchivelaw11_Done : (Int × ByteArray × Int × Int × Int × Int) × (ByteArray × (Int × Int × Int × Int × Int × Int) × Bool × Bool × (List (Bool × Bool × List Int)) × Int × Int × Int) × (List (Bool × Bool × List Int)) × Int × Int := ((0, ByteArray.empty, 0, 0, 0, 0), (ByteArray.empty, (0, 0, 0, 0, 0, 0), false, false, [], 0, 0, 0), [], 0, 0)
def drive_Due (d : Nat) (a0 : Int × Int × Int × Int × Int) (a1 : Int × ByteArray × Int × Int × Int × Int) : Option Bool :=
  if (decide (a0.2.2.2.1 > 0)) = true then
   some (decide (a1.2.2.2.2.2 ≥ a0.2.2.2.1))
  else
   some false
def drive_in (d : Nat) (a0 : Int) (a1 : Int) (a2 : Int) : Option Bool :=
  if (decide (a0 ≥ a1)) = true then
   some (decide (a0 ≤ a2))
  else
   some false
def drive_sound (d : Nat) (a0 : Int × Int × Int × Int × Int) : Option Bool :=
  (drive_in d a0.1 0 1000000).bind fun r1 =>
  if r1 = true then
   (drive_in d a0.2.1 0 1000000).bind fun r2 =>
   if r2 = true then
    (drive_in d a0.2.2.1 0 1000000).bind fun r3 =>
    if r3 = true then
     (drive_in d a0.2.2.2.1 0 1125899906842624).bind fun r4 =>
     if r4 = true then
      (drive_in d a0.2.2.2.2 0 1125899906842624).bind fun r5 =>
      some r5
     else
      some false
    else
     some false
   else
    some false
  else
   some false
def drive_valid (d : Nat) (a0 : Int × ByteArray × Int × Int × Int × Int) : Option Bool :=
  (show Option (((Int × ByteArray × Int × Int × Int × Int)) ⊕ Bool) from
   (drive_in d a0.1 0 2).bind fun r2 =>
   if (!r2) = true then
    some (.inr false)
   else
    (drive_in d a0.2.2.2.1 0 1125899906842624).bind fun r3 =>
    if (!r3) = true then
     some (.inr false)
    else
     (drive_in d a0.2.2.2.2.1 0 1125899906842624).bind fun r4 =>
     if (!r4) = true then
      some (.inr false)
     else
      (drive_in d a0.2.2.2.2.2 0 1125899906842624).bind fun r5 =>
      if (!r5) = true then
       some (.inr false)
      else
       (drive_in d a0.2.2.1 0 4096).bind fun r6 =>
       if (!r6) = true then
        some (.inr false)
       else
        some (.inl a0)).bind fun y7 => match y7 with
  | .inl y7 =>
   if (!decide (y7.1 = 0)) = true then
    some true
   else
    some ((decide (y7.1 = y7.1)) && ((decide (y7.2.1 = ⟨#[]⟩)) && ((decide (y7.2.2.1 = 0)) && ((decide (y7.2.2.2.1 = y7.2.2.2.1)) && ((decide (y7.2.2.2.2.1 = y7.2.2.2.2.1)) && (decide (y7.2.2.2.2.2 = y7.2.2.2.2.2)))))))
  | .inr x => some x
def cartridge_barcode_l0 (d : Nat) : Nat → ByteArray → (List Int) → Int → Int → Option (ByteArray ⊕ Bool)
  | 0, _, _, _, _ => none
  | k + 1, t0, t6, t7, t8 =>
    if (decide (t8 < t7)) = true then
     if (decide ((0 : Int) ≤ t8 ∧ t8 < (t6.length : Int))) = true then
      if (decide ((t6.getD t8.toNat 0) < 65)) = true then
       if (decide ((t6.getD t8.toNat 0) < 48)) = true then
        some (.inr false)
       else
        if (decide ((t6.getD t8.toNat 0) > 57)) = true then
         some (.inr false)
        else
         cartridge_barcode_l0 d k t0 t6 t7 (IntKind.i64.wrap (t8 + 1))
      else
       if (decide ((t6.getD t8.toNat 0) > 90)) = true then
        if (decide ((t6.getD t8.toNat 0) < 48)) = true then
         some (.inr false)
        else
         if (decide ((t6.getD t8.toNat 0) > 57)) = true then
          some (.inr false)
         else
          cartridge_barcode_l0 d k t0 t6 t7 (IntKind.i64.wrap (t8 + 1))
       else
        cartridge_barcode_l0 d k t0 t6 t7 (IntKind.i64.wrap (t8 + 1))
     else none
    else
     some (.inl t0)
def cartridge_barcode (d : Nat) (a0 : ByteArray) : Option Bool :=
  (cartridge_barcode_l0 d d a0 (bytesOf a0) ((bytesOf a0).length : Int) 0).bind fun y2 => match y2 with
  | .inl y2 =>
   if (decide ((y2.size : Int) ≥ 1)) = true then
    some (decide ((y2.size : Int) ≤ 24))
   else
    some false
  | .inr r3 =>
   some r3
def serpentine_timed_l0 (d : Nat) : Nat → (List Int) → Int → Int → Option (Unit ⊕ Bool)
  | 0, _, _, _ => none
  | k + 1, t5, t6, t7 =>
    if (decide (t7 < t6)) = true then
     if (decide ((0 : Int) ≤ t7 ∧ t7 < (t5.length : Int))) = true then
      if (decide ((t5.getD t7.toNat 0) < 0)) = true then
       some (.inr false)
      else
       if (decide ((t5.getD t7.toNat 0) > 1000000)) = true then
        some (.inr false)
       else
        serpentine_timed_l0 d k t5 t6 (IntKind.i64.wrap (t7 + 1))
     else none
    else
     some (.inl ())
def serpentine_timed (d : Nat) (a0 : List Int) : Option Bool :=
  (serpentine_timed_l0 d d a0 (a0.length : Int) 0).bind fun y2 => match y2 with
  | .inl y2 =>
   some true
  | .inr r3 =>
   some r3
def serpentine_Valid (d : Nat) (a0 : Int × Int × Int × Int × Int × Int) : Option Bool :=
  (show Option (((Int × Int × Int × Int × Int × Int)) ⊕ Bool) from
   if (decide (a0.1 < 1)) = true then
    some (.inr false)
   else
    if (decide (a0.1 > 32)) = true then
     some (.inr false)
    else
     if (decide (a0.2.1 < 1)) = true then
      some (.inr false)
     else
      if (decide (a0.1 = 0)) = true then
       none
      else
       if (decide (a0.2.1 > (IntKind.i64.wrap (Int.tdiv 4096 a0.1)))) = true then
        some (.inr false)
       else
        some (.inl a0)).bind fun y2 => match y2 with
  | .inl y2 =>
   (serpentine_timed d [y2.2.2.1, y2.2.2.2.1, y2.2.2.2.2.1, y2.2.2.2.2.2]).bind fun r3 =>
   some r3
  | .inr x => some x
def serpentine_Capacity (d : Nat) (a0 : Int × Int × Int × Int × Int × Int) : Option Int :=
  (serpentine_Valid d a0).bind fun r1 =>
  if (!r1) = true then
   some 0
  else
   some (IntKind.i64.wrap (a0.1 * a0.2.1))
def cartridge_counter (d : Nat) (a0 : Int) : Option Bool :=
  if (decide (a0 ≥ 0)) = true then
   some (decide (a0 ≤ 1125899906842624))
  else
   some false
def cartridge_block (d : Nat) (a0 : Bool × Bool × List Int) : Option Bool :=
  if a0.1 = true then
   some (decide ((a0.2.2.length : Int) = 0))
  else
   if (decide ((a0.2.2.length : Int) ≥ 1)) = true then
    some (decide ((a0.2.2.length : Int) ≤ 64))
   else
    some false
def cartridge_Valid_1 (d : Nat) (a0 : Bool × Bool × List Int) : Option Bool :=
  (cartridge_block d a0).bind fun r1 =>
  some (!r1)
def slices_IndexFunc_api_Block_cartridge_Valid_1_l0 (d : Nat) : Nat → (List (Bool × Bool × List Int)) → Int → Int → Option (Unit ⊕ Int)
  | 0, _, _, _ => none
  | k + 1, t0, t7, t8 =>
    if (decide (t8 < t7)) = true then
     if (decide ((0 : Int) ≤ t8 ∧ t8 < (t0.length : Int))) = true then
      (cartridge_Valid_1 d (t0.getD t8.toNat zBlock)).bind fun r2 =>
      if r2 = true then
       some (.inr t8)
      else
       slices_IndexFunc_api_Block_cartridge_Valid_1_l0 d k t0 t7 (IntKind.i64.wrap (t8 + 1))
     else none
    else
     some (.inl ())
def slices_IndexFunc_api_Block_cartridge_Valid_1 (d : Nat) (a0 : List (Bool × Bool × List Int)) : Option Int :=
  (slices_IndexFunc_api_Block_cartridge_Valid_1_l0 d d a0 (a0.length : Int) 0).bind fun y3 => match y3 with
  | .inl y3 =>
   some (-1)
  | .inr r4 =>
   some r4
def slices_ContainsFunc_api_Block_cartridge_Valid_1 (d : Nat) (a0 : List (Bool × Bool × List Int)) : Option Bool :=
  (slices_IndexFunc_api_Block_cartridge_Valid_1 d a0).bind fun r1 =>
  some (decide (r1 ≥ 0))
def cartridge_Valid (d : Nat) (a0 : ByteArray × (Int × Int × Int × Int × Int × Int) × Bool × Bool × (List (Bool × Bool × List Int)) × Int × Int × Int) : Option Bool :=
  (cartridge_barcode d a0.1).bind fun r1 =>
  if r1 = true then
   (serpentine_Valid d a0.2.1).bind fun r2 =>
   if r2 = true then
    (serpentine_Capacity d a0.2.1).bind fun r3 =>
    if (decide ((a0.2.2.2.2.1.length : Int) ≤ r3)) = true then
     (cartridge_counter d a0.2.2.2.2.2.1).bind fun r4 =>
     if r4 = true then
      (cartridge_counter d a0.2.2.2.2.2.2.1).bind fun r5 =>
      if r5 = true then
       (cartridge_counter d a0.2.2.2.2.2.2.2).bind fun r6 =>
       if r6 = true then
        (slices_ContainsFunc_api_Block_cartridge_Valid_1 d a0.2.2.2.2.1).bind fun r7 =>
        some (!r7)
       else
        some false
      else
       some false
     else
      some false
    else
     some false
   else
    some false
  else
   some false
def drive_own_l0 (d : Nat) : Nat → (List (Bool × Bool × List Int)) → Int → Int → (ByteArray × (Int × Int × Int × Int × Int × Int) × Bool × Bool × (List (Bool × Bool × List Int)) × Int × Int × Int) → (ByteArray × (Int × Int × Int × Int × Int × Int) × Bool × Bool × (List (Bool × Bool × List Int)) × Int × Int × Int) → (List (Bool × Bool × List Int)) → Option ((ByteArray × (Int × Int × Int × Int × Int × Int) × Bool × Bool × (List (Bool × Bool × List Int)) × Int × Int × Int) × (ByteArray × (Int × Int × Int × Int × Int × Int) × Bool × Bool × (List (Bool × Bool × List Int)) × Int × Int × Int) × (List (Bool × Bool × List Int)))
  | 0, _, _, _, _, _, _ => none
  | k + 1, t11, t12, t13, h1, h2, h9 =>
    if (decide (t13 < t12)) = true then
     if (decide ((0 : Int) ≤ t13 ∧ t13 < (t11.length : Int))) = true then
      if (decide ((0 + (t11.getD t13.toNat zBlock).2.2.length) * 1 ≤ 140737488355328)) = true then
       if (decide ((0 : Int) ≤ t13 ∧ t13 < (h9.length : Int))) = true then
        drive_own_l0 d k t11 t12 (IntKind.i64.wrap (t13 + 1)) h1 h2 (h9.set t13.toNat ((t11.getD t13.toNat zBlock).1, (t11.getD t13.toNat zBlock).2.1, ([] ++ (t11.getD t13.toNat zBlock).2.2)))
       else none
      else none
     else none
    else
     some (h1, h2, h9)
def drive_own (d : Nat) (a0 : ByteArray × (Int × Int × Int × Int × Int × Int) × Bool × Bool × (List (Bool × Bool × List Int)) × Int × Int × Int) : Option ((ByteArray × (Int × Int × Int × Int × Int × Int) × Bool × Bool × (List (Bool × Bool × List Int)) × Int × Int × Int)) :=
  if (decide (0 ≤ (a0.2.2.2.2.1.length : Int) ∧ (a0.2.2.2.2.1.length : Int) ≤ (a0.2.2.2.2.1.length : Int) ∧ (32 : Int) * (a0.2.2.2.2.1.length : Int) ≤ 281474976710656 ∧ (a0.2.2.2.2.1.length : Int) ≤ 9223372036854775807)) = true then
   (drive_own_l0 d d a0.2.2.2.2.1 (a0.2.2.2.2.1.length : Int) 0 a0 (ByteArray.empty, (0, 0, 0, 0, 0, 0), false, false, [], 0, 0, 0) (List.replicate (a0.2.2.2.2.1.length : Int).toNat (false, false, []))).bind fun y2 =>
   some (y2.1.1, y2.1.2.1, y2.1.2.2.1, y2.1.2.2.2.1, y2.2.2, y2.1.2.2.2.2.2)
  else none
def drive_more (d : Nat) (a0 : Int) (a1 : Int) : Option Int :=
  some (min (IntKind.i64.wrap (a0 + a1)) 1125899906842624)
def drive_Load (d : Nat) (a0 : Int × Int × Int × Int × Int) (a1 : Int × ByteArray × Int × Int × Int × Int) (a2 : ByteArray × (Int × Int × Int × Int × Int × Int) × Bool × Bool × (List (Bool × Bool × List Int)) × Int × Int × Int) : Option ((Int × ByteArray × Int × Int × Int × Int) × (ByteArray × (Int × Int × Int × Int × Int × Int) × Bool × Bool × (List (Bool × Bool × List Int)) × Int × Int × Int) × Int × Int) :=
  (show Option (Int × (Int × Int × Int × Int × Int) × (Int × ByteArray × Int × Int × Int × Int) × (ByteArray × (Int × Int × Int × Int × Int × Int) × Bool × Bool × (List (Bool × Bool × List Int)) × Int × Int × Int) × (Int × ByteArray × Int × Int × Int × Int) × (ByteArray × (Int × Int × Int × Int × Int × Int) × Bool × Bool × (List (Bool × Bool × List Int)) × Int × Int × Int)) from
   (drive_sound d a0).bind fun r2 =>
   if (!r2) = true then
    some (8, a0, a1, a2, (0, ByteArray.empty, 0, 0, 0, 0), (ByteArray.empty, (0, 0, 0, 0, 0, 0), false, false, [], 0, 0, 0))
   else
    (drive_valid d a1).bind fun r3 =>
    if (!r3) = true then
     some (8, a0, a1, a2, (0, ByteArray.empty, 0, 0, 0, 0), (ByteArray.empty, (0, 0, 0, 0, 0, 0), false, false, [], 0, 0, 0))
    else
     (cartridge_Valid d a2).bind fun r4 =>
     if (!r4) = true then
      some (8, a0, a1, a2, (0, ByteArray.empty, 0, 0, 0, 0), (ByteArray.empty, (0, 0, 0, 0, 0, 0), false, false, [], 0, 0, 0))
     else
      if (decide (a1.1 = 2)) = true then
       some (16, a0, a1, a2, (0, ByteArray.empty, 0, 0, 0, 0), (ByteArray.empty, (0, 0, 0, 0, 0, 0), false, false, [], 0, 0, 0))
      else
       if (decide (a1.1 = 1)) = true then
        some (14, a0, a1, a2, (0, ByteArray.empty, 0, 0, 0, 0), (ByteArray.empty, (0, 0, 0, 0, 0, 0), false, false, [], 0, 0, 0))
       else
        (drive_Due d a0 a1).bind fun r5 =>
        if r5 = true then
         some (13, a0, a1, a2, (0, ByteArray.empty, 0, 0, 0, 0), (ByteArray.empty, (0, 0, 0, 0, 0, 0), false, false, [], 0, 0, 0))
        else
         some (0, a0, a1, a2, (0, ByteArray.empty, 0, 0, 0, 0), (ByteArray.empty, (0, 0, 0, 0, 0, 0), false, false, [], 0, 0, 0))).bind fun y6 =>
  if (!decide (y6.1 = 0)) = true then
   some ((0, ByteArray.empty, 0, 0, 0, 0), (ByteArray.empty, (0, 0, 0, 0, 0, 0), false, false, [], 0, 0, 0), 0, y6.1)
  else
   (drive_own d y6.2.2.2.1).bind fun r7 =>
   (drive_more d y6.2.2.1.2.2.2.1 1).bind fun r8 =>
   (drive_more d r7.2.2.2.2.2.2.1 1).bind fun r9 =>
   some ((1, r7.1, 0, r8, y6.2.2.1.2.2.2.2), (r7.1, r7.2.1, r7.2.2.1, r7.2.2.2.1, r7.2.2.2.2.1, r7.2.2.2.2.2.1, r9, r7.2.2.2.2.2.2.2), y6.2.1.1, 0)
def drive_first_l0 (d : Nat) : Nat → Int → (Int × Int × Int × Int × Int) → (Int × ByteArray × Int × Int × Int × Int) → (ByteArray × (Int × Int × Int × Int × Int × Int) × Bool × Bool × (List (Bool × Bool × List Int)) × Int × Int × Int) → Option (Unit ⊕ Int)
  | 0, _, _, _, _ => none
  | k + 1, t8, h3, h4, h5 =>
    if (decide (t8 < 5)) = true then
     if (decide (t8 = 0)) = true then
      (drive_sound d h3).bind fun r2 =>
      if (!r2) = true then
       some (.inr 8)
      else
       (drive_valid d h4).bind fun r3 =>
       if (!r3) = true then
        some (.inr 8)
       else
        (cartridge_Valid d h5).bind fun r4 =>
        if (!r4) = true then
         if (!r4) = true then
          some (.inr 8)
         else
          if (decide (t8 = 1)) = true then
           if (decide (h4.1 = 2)) = true then
            some (.inr 16)
           else
            if (decide (t8 = 2)) = true then
             if (decide (h4.1 = 0)) = true then
              some (.inr 13)
             else
              if (decide (t8 = 3)) = true then
               if (!decide (h4.2.1 = h5.1)) = true then
                some (.inr 11)
               else
                drive_first_l0 d k (IntKind.i64.wrap (t8 + 1)) h3 h4 h5
              else
               drive_first_l0 d k (IntKind.i64.wrap (t8 + 1)) h3 h4 h5
            else
             if (decide (t8 = 3)) = true then
              if (!decide (h4.2.1 = h5.1)) = true then
               some (.inr 11)
              else
               drive_first_l0 d k (IntKind.i64.wrap (t8 + 1)) h3 h4 h5
             else
              drive_first_l0 d k (IntKind.i64.wrap (t8 + 1)) h3 h4 h5
          else
           if (decide (t8 = 2)) = true then
            if (decide (h4.1 = 0)) = true then
             some (.inr 13)
            else
             if (decide (t8 = 3)) = true then
              if (!decide (h4.2.1 = h5.1)) = true then
               some (.inr 11)
              else
               drive_first_l0 d k (IntKind.i64.wrap (t8 + 1)) h3 h4 h5
             else
              drive_first_l0 d k (IntKind.i64.wrap (t8 + 1)) h3 h4 h5
           else
            if (decide (t8 = 3)) = true then
             if (!decide (h4.2.1 = h5.1)) = true then
              some (.inr 11)
             else
              drive_first_l0 d k (IntKind.i64.wrap (t8 + 1)) h3 h4 h5
            else
             drive_first_l0 d k (IntKind.i64.wrap (t8 + 1)) h3 h4 h5
        else
         if (decide (t8 = 4)) = true then
          if (decide (h4.2.2.1 > (h5.2.2.2.2.1.length : Int))) = true then
           some (.inr 8)
          else
           if (decide (t8 = 1)) = true then
            if (decide (h4.1 = 2)) = true then
             some (.inr 16)
            else
             if (decide (t8 = 2)) = true then
              if (decide (h4.1 = 0)) = true then
               some (.inr 13)
              else
               if (decide (t8 = 3)) = true then
                if (!decide (h4.2.1 = h5.1)) = true then
                 some (.inr 11)
                else
                 drive_first_l0 d k (IntKind.i64.wrap (t8 + 1)) h3 h4 h5
               else
                drive_first_l0 d k (IntKind.i64.wrap (t8 + 1)) h3 h4 h5
             else
              if (decide (t8 = 3)) = true then
               if (!decide (h4.2.1 = h5.1)) = true then
                some (.inr 11)
               else
                drive_first_l0 d k (IntKind.i64.wrap (t8 + 1)) h3 h4 h5
              else
               drive_first_l0 d k (IntKind.i64.wrap (t8 + 1)) h3 h4 h5
           else
            if (decide (t8 = 2)) = true then
             if (decide (h4.1 = 0)) = true then
              some (.inr 13)
             else
              if (decide (t8 = 3)) = true then
               if (!decide (h4.2.1 = h5.1)) = true then
                some (.inr 11)
               else
                drive_first_l0 d k (IntKind.i64.wrap (t8 + 1)) h3 h4 h5
              else
               drive_first_l0 d k (IntKind.i64.wrap (t8 + 1)) h3 h4 h5
            else
             if (decide (t8 = 3)) = true then
              if (!decide (h4.2.1 = h5.1)) = true then
               some (.inr 11)
              else
               drive_first_l0 d k (IntKind.i64.wrap (t8 + 1)) h3 h4 h5
             else
              drive_first_l0 d k (IntKind.i64.wrap (t8 + 1)) h3 h4 h5
         else
          if (decide (t8 = 1)) = true then
           if (decide (h4.1 = 2)) = true then
            some (.inr 16)
           else
            if (decide (t8 = 2)) = true then
             if (decide (h4.1 = 0)) = true then
              some (.inr 13)
             else
              if (decide (t8 = 3)) = true then
               if (!decide (h4.2.1 = h5.1)) = true then
                some (.inr 11)
               else
                drive_first_l0 d k (IntKind.i64.wrap (t8 + 1)) h3 h4 h5
              else
               drive_first_l0 d k (IntKind.i64.wrap (t8 + 1)) h3 h4 h5
            else
             if (decide (t8 = 3)) = true then
              if (!decide (h4.2.1 = h5.1)) = true then
               some (.inr 11)
              else
               drive_first_l0 d k (IntKind.i64.wrap (t8 + 1)) h3 h4 h5
             else
              drive_first_l0 d k (IntKind.i64.wrap (t8 + 1)) h3 h4 h5
          else
           if (decide (t8 = 2)) = true then
            if (decide (h4.1 = 0)) = true then
             some (.inr 13)
            else
             if (decide (t8 = 3)) = true then
              if (!decide (h4.2.1 = h5.1)) = true then
               some (.inr 11)
              else
               drive_first_l0 d k (IntKind.i64.wrap (t8 + 1)) h3 h4 h5
             else
              drive_first_l0 d k (IntKind.i64.wrap (t8 + 1)) h3 h4 h5
           else
            if (decide (t8 = 3)) = true then
             if (!decide (h4.2.1 = h5.1)) = true then
              some (.inr 11)
             else
              drive_first_l0 d k (IntKind.i64.wrap (t8 + 1)) h3 h4 h5
            else
             drive_first_l0 d k (IntKind.i64.wrap (t8 + 1)) h3 h4 h5
     else
      if (decide (t8 = 4)) = true then
       if (decide (h4.2.2.1 > (h5.2.2.2.2.1.length : Int))) = true then
        some (.inr 8)
       else
        if (decide (t8 = 1)) = true then
         if (decide (h4.1 = 2)) = true then
          some (.inr 16)
         else
          if (decide (t8 = 2)) = true then
           if (decide (h4.1 = 0)) = true then
            some (.inr 13)
           else
            if (decide (t8 = 3)) = true then
             if (!decide (h4.2.1 = h5.1)) = true then
              some (.inr 11)
             else
              drive_first_l0 d k (IntKind.i64.wrap (t8 + 1)) h3 h4 h5
            else
             drive_first_l0 d k (IntKind.i64.wrap (t8 + 1)) h3 h4 h5
          else
           if (decide (t8 = 3)) = true then
            if (!decide (h4.2.1 = h5.1)) = true then
             some (.inr 11)
            else
             drive_first_l0 d k (IntKind.i64.wrap (t8 + 1)) h3 h4 h5
           else
            drive_first_l0 d k (IntKind.i64.wrap (t8 + 1)) h3 h4 h5
        else
         if (decide (t8 = 2)) = true then
          if (decide (h4.1 = 0)) = true then
           some (.inr 13)
          else
           if (decide (t8 = 3)) = true then
            if (!decide (h4.2.1 = h5.1)) = true then
             some (.inr 11)
            else
             drive_first_l0 d k (IntKind.i64.wrap (t8 + 1)) h3 h4 h5
           else
            drive_first_l0 d k (IntKind.i64.wrap (t8 + 1)) h3 h4 h5
         else
          if (decide (t8 = 3)) = true then
           if (!decide (h4.2.1 = h5.1)) = true then
            some (.inr 11)
           else
            drive_first_l0 d k (IntKind.i64.wrap (t8 + 1)) h3 h4 h5
          else
           drive_first_l0 d k (IntKind.i64.wrap (t8 + 1)) h3 h4 h5
      else
       if (decide (t8 = 1)) = true then
        if (decide (h4.1 = 2)) = true then
         some (.inr 16)
        else
         if (decide (t8 = 2)) = true then
          if (decide (h4.1 = 0)) = true then
           some (.inr 13)
          else
           if (decide (t8 = 3)) = true then
            if (!decide (h4.2.1 = h5.1)) = true then
             some (.inr 11)
            else
             drive_first_l0 d k (IntKind.i64.wrap (t8 + 1)) h3 h4 h5
           else
            drive_first_l0 d k (IntKind.i64.wrap (t8 + 1)) h3 h4 h5
         else
          if (decide (t8 = 3)) = true then
           if (!decide (h4.2.1 = h5.1)) = true then
            some (.inr 11)
           else
            drive_first_l0 d k (IntKind.i64.wrap (t8 + 1)) h3 h4 h5
          else
           drive_first_l0 d k (IntKind.i64.wrap (t8 + 1)) h3 h4 h5
       else
        if (decide (t8 = 2)) = true then
         if (decide (h4.1 = 0)) = true then
          some (.inr 13)
         else
          if (decide (t8 = 3)) = true then
           if (!decide (h4.2.1 = h5.1)) = true then
            some (.inr 11)
           else
            drive_first_l0 d k (IntKind.i64.wrap (t8 + 1)) h3 h4 h5
          else
           drive_first_l0 d k (IntKind.i64.wrap (t8 + 1)) h3 h4 h5
        else
         if (decide (t8 = 3)) = true then
          if (!decide (h4.2.1 = h5.1)) = true then
           some (.inr 11)
          else
           drive_first_l0 d k (IntKind.i64.wrap (t8 + 1)) h3 h4 h5
         else
          drive_first_l0 d k (IntKind.i64.wrap (t8 + 1)) h3 h4 h5
    else
     some (.inl ())
def drive_first (d : Nat) (a0 : Int × Int × Int × Int × Int) (a1 : Int × ByteArray × Int × Int × Int × Int) (a2 : ByteArray × (Int × Int × Int × Int × Int × Int) × Bool × Bool × (List (Bool × Bool × List Int)) × Int × Int × Int) : Option Int :=
  (drive_first_l0 d d 0 a0 a1 a2).bind fun y5 => match y5 with
  | .inl y5 =>
   some 0
  | .inr r6 =>
   some r6
def serpentine_within_l0 (d : Nat) : Nat → (List Int) → Int → Int → (Int × Int × Int × Int × Int × Int) → Option (Unit ⊕ Bool)
  | 0, _, _, _, _ => none
  | k + 1, t10, t11, t12, h2 =>
    if (decide (t12 < t11)) = true then
     if (decide ((0 : Int) ≤ t12 ∧ t12 < (t10.length : Int))) = true then
      if (decide ((t10.getD t12.toNat 0) < 0)) = true then
       some (.inr false)
      else
       if (decide ((t10.getD t12.toNat 0) > (IntKind.i64.wrap (h2.1 * h2.2.1)))) = true then
        some (.inr false)
       else
        serpentine_within_l0 d k t10 t11 (IntKind.i64.wrap (t12 + 1)) h2
     else none
    else
     some (.inl ())
def serpentine_within (d : Nat) (a0 : Int × Int × Int × Int × Int × Int) (a1 : List Int) : Option Bool :=
  (serpentine_Valid d a0).bind fun r1 =>
  if (!r1) = true then
   some false
  else
   (serpentine_within_l0 d d a1 (a1.length : Int) 0 a0).bind fun y3 => match y3 with
   | .inl y3 =>
    some true
   | .inr r4 =>
    some r4
def serpentine_on : Nat → (Int × Int × Int × Int × Int × Int) → Int → Option ((Int × Int × Bool))
  | 0, _, _ => none
  | d + 1, a0, a1 =>
  if (decide (a1 = (IntKind.i64.wrap (a0.1 * a0.2.1)))) = true then
   (serpentine_on d a0 (IntKind.i64.wrap (a1 - 1))).bind fun r1 =>
   if r1.2.2 = true then
    some (r1.1, (IntKind.i64.wrap (r1.2.1 - 1)), r1.2.2)
   else
    some (r1.1, (IntKind.i64.wrap (r1.2.1 + 1)), r1.2.2)
  else
   if (decide (a0.2.1 = 0)) = true then
    none
   else
    if (decide (a0.2.1 = 0)) = true then
     none
    else
     if (decide ((Int.tmod (IntKind.i64.wrap (Int.tdiv a1 a0.2.1)) 2) = 1)) = true then
      some ((IntKind.i64.wrap (Int.tdiv a1 a0.2.1)), (IntKind.i64.wrap ((IntKind.i64.wrap (a0.2.1 - 1)) - (Int.tmod a1 a0.2.1))), true)
     else
      some ((IntKind.i64.wrap (Int.tdiv a1 a0.2.1)), (Int.tmod a1 a0.2.1), false)
def serpentine_distance (d : Nat) (a0 : Int) (a1 : Int) : Option Int :=
  some (max (IntKind.i64.wrap (a0 - a1)) (IntKind.i64.wrap (a1 - a0)))
def serpentine_motion (d : Nat) (a0 : Int × Int × Int × Int × Int × Int) (a1 : Int × Int × Bool) (a2 : Int × Int × Bool) : Option Int :=
  (serpentine_distance d a1.2.1 a2.2.1).bind fun r1 =>
  (serpentine_distance d a1.1 a2.1).bind fun r2 =>
  (show Option (Int × Bool × (Int × Int × Int × Int × Int × Int)) from
   if (decide (a2.2.1 > a1.2.1)) = true then
    some ((IntKind.i64.wrap ((IntKind.i64.wrap (a0.2.2.1 * r1)) + (IntKind.i64.wrap (a0.2.2.2.2.1 * r2)))), a2.2.2, a0)
   else
    if (decide (a2.2.1 < a1.2.1)) = true then
     some ((IntKind.i64.wrap ((IntKind.i64.wrap (a0.2.2.1 * r1)) + (IntKind.i64.wrap (a0.2.2.2.2.1 * r2)))), (!a2.2.2), a0)
    else
     some ((IntKind.i64.wrap ((IntKind.i64.wrap (a0.2.2.1 * r1)) + (IntKind.i64.wrap (a0.2.2.2.2.1 * r2)))), (!decide (a1.2.2 = a2.2.2)), a0)).bind fun y4 =>
  if y4.2.1 = true then
   some (IntKind.i64.wrap (y4.1 + y4.2.2.2.2.2.1))
  else
   some y4.1
def serpentine_Locate (d : Nat) (a0 : Int × Int × Int × Int × Int × Int) (a1 : Int) (a2 : Int) : Option Int :=
  (show Option ((Int × Int × (Int × Int × Int × Int × Int × Int)) ⊕ Int) from
   if (decide (a1 = a2)) = true then
    some (.inr 0)
   else
    (serpentine_within d a0 [a1, a2]).bind fun r2 =>
    if (!r2) = true then
     some (.inr 0)
    else
     some (.inl (a1, a2, a0))).bind fun y3 => match y3 with
  | .inl y3 =>
   (serpentine_on d y3.2.2 y3.1).bind fun r4 =>
   (serpentine_on d y3.2.2 y3.2.1).bind fun r5 =>
   (serpentine_motion d y3.2.2 r4 r5).bind fun r6 =>
   some r6
  | .inr x => some x
def serpentine_Passes (d : Nat) (a0 : Int × Int × Int × Int × Int × Int) (a1 : Int) (a2 : Int) : Option Int :=
  (serpentine_within d a0 [a1, a2]).bind fun r1 =>
  if (!r1) = true then
   some 0
  else
   (serpentine_on d a0 a1).bind fun r2 =>
   (serpentine_on d a0 a2).bind fun r3 =>
   (serpentine_distance d r2.2.1 r3.2.1).bind fun r4 =>
   if (decide (a0.2.1 = 0)) = true then
    none
   else
    some (IntKind.i64.wrap (Int.tdiv (IntKind.i64.wrap ((IntKind.i64.wrap ((IntKind.i64.wrap (r4 * 1000)) + a0.2.1)) - 1)) a0.2.1))
def drive_moved (d : Nat) (a0 : Int × ByteArray × Int × Int × Int × Int) (a1 : ByteArray × (Int × Int × Int × Int × Int × Int) × Bool × Bool × (List (Bool × Bool × List Int)) × Int × Int × Int) (a2 : Int) : Option ((Int × ByteArray × Int × Int × Int × Int) × (ByteArray × (Int × Int × Int × Int × Int × Int) × Bool × Bool × (List (Bool × Bool × List Int)) × Int × Int × Int)) :=
  (serpentine_Passes d a1.2.1 a0.2.2.1 a2).bind fun r1 =>
  (drive_more d a0.2.2.2.2.1 r1).bind fun r2 =>
  (drive_more d a0.2.2.2.2.2 r1).bind fun r3 =>
  (drive_more d a1.2.2.2.2.2.2.2 r1).bind fun r4 =>
  some ((a0.1, a0.2.1, a2, a0.2.2.2.1, r2, r3), (a1.1, a1.2.1, a1.2.2.1, a1.2.2.2.1, a1.2.2.2.2.1, a1.2.2.2.2.2.1, a1.2.2.2.2.2.2.1, r4))
def drive_Seek_1 (d : Nat) (a0 : (Int × ByteArray × Int × Int × Int × Int) × (ByteArray × (Int × Int × Int × Int × Int × Int) × Bool × Bool × (List (Bool × Bool × List Int)) × Int × Int × Int) × Int × Int) (a1 : Int) : Option (((Int × ByteArray × Int × Int × Int × Int) × (ByteArray × (Int × Int × Int × Int × Int × Int) × Bool × Bool × (List (Bool × Bool × List Int)) × Int × Int × Int) × Int × Int)) :=
  (drive_in d a1 0 (a0.2.1.2.2.2.2.1.length : Int)).bind fun r1 =>
  if (!r1) = true then
   some (a0.1, a0.2.1, a0.2.2.1, 7)
  else
   (serpentine_Locate d a0.2.1.2.1 a0.1.2.2.1 a1).bind fun r2 =>
   (drive_moved d a0.1 a0.2.1 a1).bind fun r3 =>
   some (r3.1, r3.2, r2, a0.2.2.2)
def drive_after_drive_Seek_1 (d : Nat) (a0 : Int × Int × Int × Int × Int) (a1 : Int × ByteArray × Int × Int × Int × Int) (a2 : ByteArray × (Int × Int × Int × Int × Int × Int) × Bool × Bool × (List (Bool × Bool × List Int)) × Int × Int × Int) (a3_0 : Int) : Option (((Int × ByteArray × Int × Int × Int × Int) × (ByteArray × (Int × Int × Int × Int × Int × Int) × Bool × Bool × (List (Bool × Bool × List Int)) × Int × Int × Int) × Int × Int)) :=
  (drive_first d a0 a1 a2).bind fun r1 =>
  if (!decide (r1 = 0)) = true then
   some ((0, ByteArray.empty, 0, 0, 0, 0), (ByteArray.empty, (0, 0, 0, 0, 0, 0), false, false, [], 0, 0, 0), 0, r1)
  else
   (drive_own d a2).bind fun r2 =>
   (drive_Seek_1 d (a1, r2, 0, 0) a3_0).bind fun r3 =>
   if (!decide (r3.2.2.2 = 0)) = true then
    if (!decide (r3.2.2.2 = 15)) = true then
     some ((0, ByteArray.empty, 0, 0, 0, 0), (ByteArray.empty, (0, 0, 0, 0, 0, 0), false, false, [], 0, 0, 0), 0, r3.2.2.2)
    else
     some r3
   else
    some r3
def drive_Seek (d : Nat) (a0 : Int × Int × Int × Int × Int) (a1 : Int × ByteArray × Int × Int × Int × Int) (a2 : ByteArray × (Int × Int × Int × Int × Int × Int) × Bool × Bool × (List (Bool × Bool × List Int)) × Int × Int × Int) (a3 : Int) : Option ((Int × ByteArray × Int × Int × Int × Int) × (ByteArray × (Int × Int × Int × Int × Int × Int) × Bool × Bool × (List (Bool × Bool × List Int)) × Int × Int × Int) × Int × Int) :=
  (drive_after_drive_Seek_1 d a0 a1 a2 a3).bind fun r1 =>
  some (r1.1, r1.2.1, r1.2.2.1, r1.2.2.2)
def cartridge_Read_1 (d : Nat) (a0 : Bool × Bool × List Int) : Option Bool :=
  some a0.2.1
def slices_IndexFunc_api_Block_cartridge_Read_1_l0 (d : Nat) : Nat → (List (Bool × Bool × List Int)) → Int → Int → Option (Unit ⊕ Int)
  | 0, _, _, _ => none
  | k + 1, t0, t7, t8 =>
    if (decide (t8 < t7)) = true then
     if (decide ((0 : Int) ≤ t8 ∧ t8 < (t0.length : Int))) = true then
      (cartridge_Read_1 d (t0.getD t8.toNat zBlock)).bind fun r2 =>
      if r2 = true then
       some (.inr t8)
      else
       slices_IndexFunc_api_Block_cartridge_Read_1_l0 d k t0 t7 (IntKind.i64.wrap (t8 + 1))
     else none
    else
     some (.inl ())
def slices_IndexFunc_api_Block_cartridge_Read_1 (d : Nat) (a0 : List (Bool × Bool × List Int)) : Option Int :=
  (slices_IndexFunc_api_Block_cartridge_Read_1_l0 d d a0 (a0.length : Int) 0).bind fun y3 => match y3 with
  | .inl y3 =>
   some (-1)
  | .inr r4 =>
   some r4
def slices_Clone_byte (d : Nat) (a0 : List Int) : Option (List Int) :=
  if (decide ((0 + a0.length) * 1 ≤ 140737488355328)) = true then some a0 else none
def cartridge_copied_l0 (d : Nat) : Nat → (List (Bool × Bool × List Int)) → Int → Int → (List (Bool × Bool × List Int)) → Option ((List (Bool × Bool × List Int)))
  | 0, _, _, _, _ => none
  | k + 1, t9, t10, t11, h8 =>
    if (decide (t11 < t10)) = true then
     if (decide ((0 : Int) ≤ t11 ∧ t11 < (t9.length : Int))) = true then
      (slices_Clone_byte d (t9.getD t11.toNat zBlock).2.2).bind fun r2 =>
      if (decide ((0 : Int) ≤ t11 ∧ t11 < (h8.length : Int))) = true then
       cartridge_copied_l0 d k t9 t10 (IntKind.i64.wrap (t11 + 1)) (h8.set t11.toNat ((t9.getD t11.toNat zBlock).1, (t9.getD t11.toNat zBlock).2.1, r2))
      else none
     else none
    else
     some h8
def cartridge_copied (d : Nat) (a0 : List (Bool × Bool × List Int)) : Option ((List (Bool × Bool × List Int))) :=
  if (decide (0 ≤ (a0.length : Int) ∧ (a0.length : Int) ≤ (a0.length : Int) ∧ (32 : Int) * (a0.length : Int) ≤ 281474976710656 ∧ (a0.length : Int) ≤ 9223372036854775807)) = true then
   (cartridge_copied_l0 d d a0 (a0.length : Int) 0 (List.replicate (a0.length : Int).toNat (false, false, []))).bind fun y3 =>
   if (decide (0 ≤ (0 : Int) ∧ (0 : Int) ≤ (y3.length : Int) ∧ (y3.length : Int) ≤ (y3.length : Int))) = true then
    if (decide ((y3.length : Int) = (y3.length : Int) ∧ (y3.length : Int) = (y3.length : Int))) = true then
     some y3
    else none
   else none
  else none
def cartridge_Read (d : Nat) (a0 : ByteArray × (Int × Int × Int × Int × Int × Int) × Bool × Bool × (List (Bool × Bool × List Int)) × Int × Int × Int) (a1 : Int × Int) : Option ((List (Bool × Bool × List Int)) × Int) :=
  (show Option (((ByteArray × (Int × Int × Int × Int × Int × Int) × Bool × Bool × (List (Bool × Bool × List Int)) × Int × Int × Int) × (Int × Int)) ⊕ ((List (Bool × Bool × List Int)) × Int)) from
   (cartridge_Valid d a0).bind fun r2 =>
   if (!r2) = true then
    some (.inr ([], 8))
   else
    if (decide (a1.1 < 0)) = true then
     some (.inr ([], 7))
    else
     if (decide (a1.2 < 0)) = true then
      some (.inr ([], 7))
     else
      if (decide (a1.2 = 0)) = true then
       some (.inr ([], 0))
      else
       if (decide (a1.1 ≥ (a0.2.2.2.2.1.length : Int))) = true then
        some (.inr ([], 7))
       else
        some (.inl (a0, a1))).bind fun y3 => match y3 with
  | .inl y3 =>
   if (decide (0 ≤ y3.2.1 ∧ y3.2.1 ≤ (y3.1.2.2.2.2.1.length : Int) ∧ (y3.1.2.2.2.2.1.length : Int) ≤ (y3.1.2.2.2.2.1.length : Int))) = true then
    if (decide (0 ≤ (0 : Int) ∧ (0 : Int) ≤ (min y3.2.2 (((y3.1.2.2.2.2.1.take (y3.1.2.2.2.2.1.length : Int).toNat).drop y3.2.1.toNat).length : Int)) ∧ (min y3.2.2 (((y3.1.2.2.2.2.1.take (y3.1.2.2.2.2.1.length : Int).toNat).drop y3.2.1.toNat).length : Int)) ≤ (((y3.1.2.2.2.2.1.take (y3.1.2.2.2.2.1.length : Int).toNat).drop y3.2.1.toNat).length : Int))) = true then
     (slices_IndexFunc_api_Block_cartridge_Read_1 d ((((y3.1.2.2.2.2.1.take (y3.1.2.2.2.2.1.length : Int).toNat).drop y3.2.1.toNat).take (min y3.2.2 (((y3.1.2.2.2.2.1.take (y3.1.2.2.2.2.1.length : Int).toNat).drop y3.2.1.toNat).length : Int)).toNat).drop 0)).bind fun r4 =>
     if (decide (r4 ≥ 0)) = true then
      if (decide (0 ≤ (0 : Int) ∧ (0 : Int) ≤ r4 ∧ r4 ≤ (((y3.1.2.2.2.2.1.take (y3.1.2.2.2.2.1.length : Int).toNat).drop y3.2.1.toNat).length : Int))) = true then
       (cartridge_copied d ((((y3.1.2.2.2.2.1.take (y3.1.2.2.2.2.1.length : Int).toNat).drop y3.2.1.toNat).take r4.toNat).drop 0)).bind fun r5 =>
       some (r5, 15)
      else none
     else
      if (decide ((min y3.2.2 (((y3.1.2.2.2.2.1.take (y3.1.2.2.2.2.1.length : Int).toNat).drop y3.2.1.toNat).length : Int)) < y3.2.2)) = true then
       if (decide (0 ≤ (0 : Int) ∧ (0 : Int) ≤ (min y3.2.2 (((y3.1.2.2.2.2.1.take (y3.1.2.2.2.2.1.length : Int).toNat).drop y3.2.1.toNat).length : Int)) ∧ (min y3.2.2 (((y3.1.2.2.2.2.1.take (y3.1.2.2.2.2.1.length : Int).toNat).drop y3.2.1.toNat).length : Int)) ≤ (((y3.1.2.2.2.2.1.take (y3.1.2.2.2.2.1.length : Int).toNat).drop y3.2.1.toNat).length : Int))) = true then
        (cartridge_copied d ((((y3.1.2.2.2.2.1.take (y3.1.2.2.2.2.1.length : Int).toNat).drop y3.2.1.toNat).take (min y3.2.2 (((y3.1.2.2.2.2.1.take (y3.1.2.2.2.2.1.length : Int).toNat).drop y3.2.1.toNat).length : Int)).toNat).drop 0)).bind fun r6 =>
        some (r6, 7)
       else none
      else
       if (decide (0 ≤ (0 : Int) ∧ (0 : Int) ≤ (min y3.2.2 (((y3.1.2.2.2.2.1.take (y3.1.2.2.2.2.1.length : Int).toNat).drop y3.2.1.toNat).length : Int)) ∧ (min y3.2.2 (((y3.1.2.2.2.2.1.take (y3.1.2.2.2.2.1.length : Int).toNat).drop y3.2.1.toNat).length : Int)) ≤ (((y3.1.2.2.2.2.1.take (y3.1.2.2.2.2.1.length : Int).toNat).drop y3.2.1.toNat).length : Int))) = true then
        (cartridge_copied d ((((y3.1.2.2.2.2.1.take (y3.1.2.2.2.2.1.length : Int).toNat).drop y3.2.1.toNat).take (min y3.2.2 (((y3.1.2.2.2.2.1.take (y3.1.2.2.2.2.1.length : Int).toNat).drop y3.2.1.toNat).length : Int)).toNat).drop 0)).bind fun r7 =>
        some (r7, 0)
       else none
    else none
   else none
  | .inr x => some x
def serpentine_Read (d : Nat) (a0 : Int × Int × Int × Int × Int × Int) (a1 : Int × Int) : Option Int :=
  (show Option (((Int × Int × Int × Int × Int × Int) × (Int × Int)) ⊕ Int) from
   (serpentine_within d a0 [a1.1]).bind fun r2 =>
   if (!r2) = true then
    some (.inr 0)
   else
    if (decide (a1.2 < 1)) = true then
     some (.inr 0)
    else
     if (decide (a1.2 > (IntKind.i64.wrap ((IntKind.i64.wrap (a0.1 * a0.2.1)) - a1.1)))) = true then
      some (.inr 0)
     else
      some (.inl (a0, a1))).bind fun y3 => match y3 with
  | .inl y3 =>
   if (decide (y3.1.2.1 = 0)) = true then
    none
   else
    if (decide (y3.1.2.1 = 0)) = true then
     none
    else
     some (IntKind.i64.wrap ((IntKind.i64.wrap (y3.1.2.2.2.2.2 * y3.2.2)) + (IntKind.i64.wrap ((IntKind.i64.wrap (y3.1.2.2.2.2.1 + y3.1.2.2.2.1)) * (IntKind.i64.wrap ((IntKind.i64.wrap (Int.tdiv (IntKind.i64.wrap ((IntKind.i64.wrap (y3.2.1 + y3.2.2)) - 1)) y3.1.2.1)) - (IntKind.i64.wrap (Int.tdiv y3.2.1 y3.1.2.1))))))))
  | .inr x => some x
def drive_done_passed (d : Nat) (a0 : (Int × ByteArray × Int × Int × Int × Int) × (ByteArray × (Int × Int × Int × Int × Int × Int) × Bool × Bool × (List (Bool × Bool × List Int)) × Int × Int × Int) × Int × Int) (a1 : Int) : Option (((Int × ByteArray × Int × Int × Int × Int) × (ByteArray × (Int × Int × Int × Int × Int × Int) × Bool × Bool × (List (Bool × Bool × List Int)) × Int × Int × Int) × Int × Int)) :=
  (serpentine_Read d a0.2.1.2.1 (a0.1.2.2.1, a1)).bind fun r1 =>
  (drive_moved d a0.1 a0.2.1 (IntKind.i64.wrap (a0.1.2.2.1 + a1))).bind fun r2 =>
  some (r2.1, r2.2, r1, a0.2.2.2)
def drive_Read_1 (d : Nat) (a0 : (Int × ByteArray × Int × Int × Int × Int) × (ByteArray × (Int × Int × Int × Int × Int × Int) × Bool × Bool × (List (Bool × Bool × List Int)) × Int × Int × Int) × Int × Int) (a1 : Int) (a2 : List (Bool × Bool × List Int)) : Option (((Int × ByteArray × Int × Int × Int × Int) × (ByteArray × (Int × Int × Int × Int × Int × Int) × Bool × Bool × (List (Bool × Bool × List Int)) × Int × Int × Int) × Int × Int) × (List (Bool × Bool × List Int))) :=
  (show Option ((Int × ((Int × ByteArray × Int × Int × Int × Int) × (ByteArray × (Int × Int × Int × Int × Int × Int) × Bool × Bool × (List (Bool × Bool × List Int)) × Int × Int × Int) × Int × Int) × (List (Bool × Bool × List Int))) ⊕ (((Int × ByteArray × Int × Int × Int × Int) × (ByteArray × (Int × Int × Int × Int × Int × Int) × Bool × Bool × (List (Bool × Bool × List Int)) × Int × Int × Int) × Int × Int) × (List (Bool × Bool × List Int)))) from
   if (decide (a1 < 1)) = true then
    some (.inr ((a0.1, a0.2.1, a0.2.2.1, 7), a2))
   else
    if (decide (a1 > (IntKind.i64.wrap ((a0.2.1.2.2.2.2.1.length : Int) - a0.1.2.2.1)))) = true then
     some (.inr ((a0.1, a0.2.1, a0.2.2.1, 7), a2))
    else
     some (.inl (a1, a0, a2))).bind fun y2 => match y2 with
  | .inl y2 =>
   (cartridge_Read d y2.2.1.2.1 (y2.2.1.1.2.2.1, y2.1)).bind fun r3 =>
   (drive_done_passed d (y2.2.1.1, y2.2.1.2.1, y2.2.1.2.2.1, r3.2) (r3.1.length : Int)).bind fun r4 =>
   some (r4, r3.1)
  | .inr x => some x
def drive_after_drive_Read_1 (d : Nat) (a0 : Int × Int × Int × Int × Int) (a1 : Int × ByteArray × Int × Int × Int × Int) (a2 : ByteArray × (Int × Int × Int × Int × Int × Int) × Bool × Bool × (List (Bool × Bool × List Int)) × Int × Int × Int) (a3_0 : Int) (a3_1 : List (Bool × Bool × List Int)) : Option (((Int × ByteArray × Int × Int × Int × Int) × (ByteArray × (Int × Int × Int × Int × Int × Int) × Bool × Bool × (List (Bool × Bool × List Int)) × Int × Int × Int) × Int × Int) × (List (Bool × Bool × List Int))) :=
  (drive_first d a0 a1 a2).bind fun r1 =>
  if (!decide (r1 = 0)) = true then
   some (((0, ByteArray.empty, 0, 0, 0, 0), (ByteArray.empty, (0, 0, 0, 0, 0, 0), false, false, [], 0, 0, 0), 0, r1), a3_1)
  else
   (drive_own d a2).bind fun r2 =>
   (drive_Read_1 d (a1, r2, 0, 0) a3_0 a3_1).bind fun r3 =>
   if (!decide (r3.1.2.2.2 = 0)) = true then
    if (!decide (r3.1.2.2.2 = 15)) = true then
     some (((0, ByteArray.empty, 0, 0, 0, 0), (ByteArray.empty, (0, 0, 0, 0, 0, 0), false, false, [], 0, 0, 0), 0, r3.1.2.2.2), r3.2)
    else
     some (r3.1, r3.2)
   else
    some (r3.1, r3.2)
def drive_Read (d : Nat) (a0 : Int × Int × Int × Int × Int) (a1 : Int × ByteArray × Int × Int × Int × Int) (a2 : ByteArray × (Int × Int × Int × Int × Int × Int) × Bool × Bool × (List (Bool × Bool × List Int)) × Int × Int × Int) (a3 : Int) : Option ((Int × ByteArray × Int × Int × Int × Int) × (ByteArray × (Int × Int × Int × Int × Int × Int) × Bool × Bool × (List (Bool × Bool × List Int)) × Int × Int × Int) × (List (Bool × Bool × List Int)) × Int × Int) :=
  (drive_after_drive_Read_1 d a0 a1 a2 a3 []).bind fun r1 =>
  some (r1.1.1, r1.1.2.1, r1.2, r1.1.2.2.1, r1.1.2.2.2)
def drive_Worn (d : Nat) (a0 : Int × Int × Int × Int × Int) (a1 : ByteArray × (Int × Int × Int × Int × Int × Int) × Bool × Bool × (List (Bool × Bool × List Int)) × Int × Int × Int) : Option Bool :=
  if (decide (a0.2.2.2.2 > 0)) = true then
   some (decide (a1.2.2.2.2.2.2.2 ≥ a0.2.2.2.2))
  else
   some false
def drive_Unload_1 (d : Nat) (a0 : (Int × ByteArray × Int × Int × Int × Int) × (ByteArray × (Int × Int × Int × Int × Int × Int) × Bool × Bool × (List (Bool × Bool × List Int)) × Int × Int × Int) × Int × Int) (a1 : Int × Int × Int × Int × Int) : Option (((Int × ByteArray × Int × Int × Int × Int) × (ByteArray × (Int × Int × Int × Int × Int × Int) × Bool × Bool × (List (Bool × Bool × List Int)) × Int × Int × Int) × Int × Int)) :=
  (serpentine_Locate d a0.2.1.2.1 a0.1.2.2.1 0).bind fun r1 =>
  (drive_moved d a0.1 a0.2.1 0).bind fun r2 =>
  some ((0, ⟨#[]⟩, r2.1.2.2), r2.2, (IntKind.i64.wrap (r1 + a1.2.1)), a0.2.2.2)
def drive_after_drive_Unload_1 (d : Nat) (a0 : Int × Int × Int × Int × Int) (a1 : Int × ByteArray × Int × Int × Int × Int) (a2 : ByteArray × (Int × Int × Int × Int × Int × Int) × Bool × Bool × (List (Bool × Bool × List Int)) × Int × Int × Int) (a3_0 : Int × Int × Int × Int × Int) : Option (((Int × ByteArray × Int × Int × Int × Int) × (ByteArray × (Int × Int × Int × Int × Int × Int) × Bool × Bool × (List (Bool × Bool × List Int)) × Int × Int × Int) × Int × Int)) :=
  (drive_first d a0 a1 a2).bind fun r1 =>
  if (!decide (r1 = 0)) = true then
   some ((0, ByteArray.empty, 0, 0, 0, 0), (ByteArray.empty, (0, 0, 0, 0, 0, 0), false, false, [], 0, 0, 0), 0, r1)
  else
   (drive_own d a2).bind fun r2 =>
   (drive_Unload_1 d (a1, r2, 0, 0) a3_0).bind fun r3 =>
   if (!decide (r3.2.2.2 = 0)) = true then
    if (!decide (r3.2.2.2 = 15)) = true then
     some ((0, ByteArray.empty, 0, 0, 0, 0), (ByteArray.empty, (0, 0, 0, 0, 0, 0), false, false, [], 0, 0, 0), 0, r3.2.2.2)
    else
     some r3
   else
    some r3
def drive_Unload (d : Nat) (a0 : Int × Int × Int × Int × Int) (a1 : Int × ByteArray × Int × Int × Int × Int) (a2 : ByteArray × (Int × Int × Int × Int × Int × Int) × Bool × Bool × (List (Bool × Bool × List Int)) × Int × Int × Int) : Option ((Int × ByteArray × Int × Int × Int × Int) × (ByteArray × (Int × Int × Int × Int × Int × Int) × Bool × Bool × (List (Bool × Bool × List Int)) × Int × Int × Int) × Int × Int) :=
  (drive_after_drive_Unload_1 d a0 a1 a2 a0).bind fun r1 =>
  some (r1.1, r1.2.1, r1.2.2.1, r1.2.2.2)
def tapearchivelaw11_lives_l0 (d : Nat) : Nat → Int → (Int × Int × Int × Int × Int) → ByteArray → Int → Int → Int → Int → Int → Int → Bool → Bool → Int → Int → Int → (List (Bool × Bool × List Int)) → Option ((Int × Int × Int × Int × Int) × ByteArray × Int × Int × Int × Int × Int × Int × Bool × Bool × Int × Int × Int × (List (Bool × Bool × List Int)))
  | 0, _, _, _, _, _, _, _, _, _, _, _, _, _, _, _ => none
  | k + 1, t3, h1, h2_0, h2_1, h2_2, h2_3, h2_4, h2_5, h2_6, h2_7, h2_8, h2_10, h2_11, h2_12, h2000001 =>
    if (decide (t3 < 12)) = true then
     if (decide ((h2000001.length + ([(false, false, [(IntKind.u8.wrap (t3))])] : List (Bool × Bool × List Int)).length) * 32 ≤ 140737488355328)) = true then
      tapearchivelaw11_lives_l0 d k (IntKind.i64.wrap (t3 + 1)) h1 h2_0 h2_1 h2_2 h2_3 h2_4 h2_5 h2_6 h2_7 h2_8 h2_10 h2_11 h2_12 (h2000001 ++ [(false, false, [(IntKind.u8.wrap (t3))])])
     else none
    else
     some (h1, h2_0, h2_1, h2_2, h2_3, h2_4, h2_5, h2_6, h2_7, h2_8, h2_10, h2_11, h2_12, h2000001)
def tapearchivelaw11_lives (d : Nat) : Option Bool :=
  (tapearchivelaw11_lives_l0 d d 0 (40, 30, 20, 1000, 0) ⟨#[65]⟩ 2 10 1 5 3 2 false false 0 0 0 []).bind fun y3 =>
  (drive_Load d y3.1 (0, ByteArray.empty, 0, 0, 0, 0) (y3.2.1, (y3.2.2.1, y3.2.2.2.1, y3.2.2.2.2.1, y3.2.2.2.2.2.1, y3.2.2.2.2.2.2.1, y3.2.2.2.2.2.2.2.1), y3.2.2.2.2.2.2.2.2.1, y3.2.2.2.2.2.2.2.2.2.1, y3.2.2.2.2.2.2.2.2.2.2.2.2.2, y3.2.2.2.2.2.2.2.2.2.2.1, y3.2.2.2.2.2.2.2.2.2.2.2.1, y3.2.2.2.2.2.2.2.2.2.2.2.2.1)).bind fun r4 =>
  (drive_Seek d y3.1 r4.1 r4.2.1 9).bind fun r5 =>
  (drive_Read d y3.1 r5.1 r5.2.1 2).bind fun r6 =>
  (show Option ((Int × Int × Int × Int × Int × Int × (Int × Int × Int × Int × Int) × (ByteArray × (Int × Int × Int × Int × Int × Int) × Bool × Bool × (List (Bool × Bool × List Int)) × Int × Int × Int) × (Int × ByteArray × Int × Int × Int × Int)) ⊕ Bool) from
   if (!decide (r6.1.2.2.1 = 11)) = true then
    some (.inr false)
   else
    if (!decide (r6.2.1.2.2.2.2.2.2.2 = 1000)) = true then
     some (.inr false)
    else
     if (!decide ((r6.2.2.1.length : Int) = 2)) = true then
      some (.inr false)
     else
      if (decide ((0 : Int) ≤ 1 ∧ 1 < (r6.2.2.1.length : Int))) = true then
       if (!decide (((r6.2.2.1.getD 1 zBlock).2.2.length : Int) = 1)) = true then
        some (.inr false)
       else
        if (decide ((0 : Int) ≤ 1 ∧ 1 < (r6.2.2.1.length : Int))) = true then
         if (decide ((0 : Int) ≤ 0 ∧ 0 < ((r6.2.2.1.getD 1 zBlock).2.2.length : Int))) = true then
          if (!decide (((r6.2.2.1.getD 1 zBlock).2.2.getD 0 0) = 10)) = true then
           some (.inr false)
          else
           some (.inl (r4.2.2.1, r4.2.2.2, r5.2.2.1, r5.2.2.2, r6.2.2.2.1, r6.2.2.2.2, y3.1, r6.2.1, r6.1))
         else none
        else none
      else none).bind fun y8 => match y8 with
  | .inl y8 =>
   (drive_Unload d y8.2.2.2.2.2.2.1 y8.2.2.2.2.2.2.2.2 y8.2.2.2.2.2.2.2.1).bind fun r9 =>
   if (decide (y8.2.1 = 0)) = true then
    if (decide (y8.2.2.2.1 = 0)) = true then
     if (decide (y8.2.2.2.2.2.1 = 0)) = true then
      if (decide (r9.2.2.2 = 0)) = true then
       if (decide (y8.1 = 40)) = true then
        if (decide (y8.2.2.1 = 9)) = true then
         if (decide (y8.2.2.2.2.1 = 12)) = true then
          if (decide (r9.2.2.1 = 46)) = true then
           if (decide (r9.1.1 = 0)) = true then
            (drive_Due d y8.2.2.2.2.2.2.1 r9.1).bind fun r10 =>
            if r10 = true then
             (drive_Worn d y8.2.2.2.2.2.2.1 r9.2.1).bind fun r11 =>
             some (!r11)
            else
             some false
           else
            some false
          else
           some false
         else
          some false
        else
         some false
       else
        some false
      else
       some false
     else
      some false
    else
     some false
   else
    some false
  | .inr x => some x
def tapearchivelaw11_small_l0 (d : Nat) : Nat → (List (Bool × Bool × List Int)) → Int → Option (Unit ⊕ Bool)
  | 0, _, _ => none
  | k + 1, t0, t3 =>
    if (decide (t3 < (t0.length : Int))) = true then
     if (decide ((0 : Int) ≤ t3 ∧ t3 < (t0.length : Int))) = true then
      if (decide (((t0.getD t3.toNat zBlock).2.2.length : Int) > 200)) = true then
       some (.inr false)
      else
       tapearchivelaw11_small_l0 d k t0 (IntKind.i64.wrap (t3 + 1))
     else none
    else
     some (.inl ())
def tapearchivelaw11_small (d : Nat) (a0 : List (Bool × Bool × List Int)) : Option Bool :=
  (tapearchivelaw11_small_l0 d d a0 0).bind fun y2 => match y2 with
  | .inl y2 =>
   some true
  | .inr r3 =>
   some r3
def tapearchivelaw11_few_l0 (d : Nat) : Nat → (List (ByteArray × (Int × Int × Int × Int × Int × Int) × Bool × Bool × (List (Bool × Bool × List Int)) × Int × Int × Int)) → (List (Int × Int × Int × List (Bool × Bool × List Int))) → Int → Option (((List (Int × Int × Int × List (Bool × Bool × List Int)))) ⊕ Bool)
  | 0, _, _, _ => none
  | k + 1, t0, t1, t7 =>
    if (decide (t7 < (t0.length : Int))) = true then
     if (decide ((0 : Int) ≤ t7 ∧ t7 < (t0.length : Int))) = true then
      if (decide (((t0.getD t7.toNat zCartridge).2.2.2.2.1.length : Int) > 200)) = true then
       some (.inr false)
      else
       if (decide ((0 : Int) ≤ t7 ∧ t7 < (t0.length : Int))) = true then
        (tapearchivelaw11_small d (t0.getD t7.toNat zCartridge).2.2.2.2.1).bind fun r4 =>
        if (!r4) = true then
         some (.inr false)
        else
         tapearchivelaw11_few_l0 d k t0 t1 (IntKind.i64.wrap (t7 + 1))
       else none
     else none
    else
     some (.inl t1)
def tapearchivelaw11_few_l2 (d : Nat) : Nat → (List (Int × Int × Int × List (Bool × Bool × List Int))) → Int → Option (Unit ⊕ Bool)
  | 0, _, _ => none
  | k + 1, t1, t8 =>
    if (decide (t8 < (t1.length : Int))) = true then
     if (decide ((0 : Int) ≤ t8 ∧ t8 < (t1.length : Int))) = true then
      if (decide (((t1.getD t8.toNat ztapearchivelaw11_Step).2.2.2.length : Int) > 60)) = true then
       some (.inr false)
      else
       if (decide ((0 : Int) ≤ t8 ∧ t8 < (t1.length : Int))) = true then
        (tapearchivelaw11_small d (t1.getD t8.toNat ztapearchivelaw11_Step).2.2.2).bind fun r8 =>
        if (!r8) = true then
         some (.inr false)
        else
         tapearchivelaw11_few_l2 d k t1 (IntKind.i64.wrap (t8 + 1))
       else none
     else none
    else
     some (.inl ())
def tapearchivelaw11_few (d : Nat) (a0 : List (ByteArray × (Int × Int × Int × Int × Int × Int) × Bool × Bool × (List (Bool × Bool × List Int)) × Int × Int × Int)) (a1 : List (Int × Int × Int × List (Bool × Bool × List Int))) (a2 : Int) : Option Bool :=
  (show Option (((List (ByteArray × (Int × Int × Int × Int × Int × Int) × Bool × Bool × (List (Bool × Bool × List Int)) × Int × Int × Int)) × (List (Int × Int × Int × List (Bool × Bool × List Int)))) ⊕ Bool) from
   if (decide ((a0.length : Int) > 4)) = true then
    some (.inr false)
   else
    if (decide ((a1.length : Int) > a2)) = true then
     some (.inr false)
    else
     some (.inl (a0, a1))).bind fun y2 => match y2 with
  | .inl y2 =>
   (tapearchivelaw11_few_l0 d d y2.1 y2.2 0).bind fun y5 => match y5 with
   | .inl y5 =>
    (tapearchivelaw11_few_l2 d d y5 0).bind fun y9 => match y9 with
    | .inl y9 =>
     some true
    | .inr r10 =>
     some r10
   | .inr r6 =>
    some r6
  | .inr x => some x
def tapearchiveref11_Copied_l0 (d : Nat) : Nat → Int → (ByteArray × (Int × Int × Int × Int × Int × Int) × Bool × Bool × (List (Bool × Bool × List Int)) × Int × Int × Int) → (ByteArray × (Int × Int × Int × Int × Int × Int) × Bool × Bool × (List (Bool × Bool × List Int)) × Int × Int × Int) → (List (Bool × Bool × List Int)) → Option ((ByteArray × (Int × Int × Int × Int × Int × Int) × Bool × Bool × (List (Bool × Bool × List Int)) × Int × Int × Int) × (ByteArray × (Int × Int × Int × Int × Int × Int) × Bool × Bool × (List (Bool × Bool × List Int)) × Int × Int × Int) × (List (Bool × Bool × List Int)))
  | 0, _, _, _, _ => none
  | k + 1, t4, h1, h2, h5 =>
    if (decide (t4 < (h1.2.2.2.2.1.length : Int))) = true then
     if (decide ((0 : Int) ≤ t4 ∧ t4 < (h1.2.2.2.2.1.length : Int))) = true then
      if (decide ((0 : Int) ≤ t4 ∧ t4 < (h1.2.2.2.2.1.length : Int))) = true then
       if (decide ((0 : Int) ≤ t4 ∧ t4 < (h1.2.2.2.2.1.length : Int))) = true then
        if (decide ((0 + (h1.2.2.2.2.1.getD t4.toNat zBlock).2.2.length) * 1 ≤ 140737488355328)) = true then
         if (decide ((h5.length + ([((h1.2.2.2.2.1.getD t4.toNat zBlock).1, (h1.2.2.2.2.1.getD t4.toNat zBlock).2.1, ([] ++ (h1.2.2.2.2.1.getD t4.toNat zBlock).2.2))] : List (Bool × Bool × List Int)).length) * 32 ≤ 140737488355328)) = true then
          tapearchiveref11_Copied_l0 d k (IntKind.i64.wrap (t4 + 1)) h1 h2 (h5 ++ [((h1.2.2.2.2.1.getD t4.toNat zBlock).1, (h1.2.2.2.2.1.getD t4.toNat zBlock).2.1, ([] ++ (h1.2.2.2.2.1.getD t4.toNat zBlock).2.2))])
         else none
        else none
       else none
      else none
     else none
    else
     some (h1, h2, h5)
def tapearchiveref11_Copied (d : Nat) (a0 : ByteArray × (Int × Int × Int × Int × Int × Int) × Bool × Bool × (List (Bool × Bool × List Int)) × Int × Int × Int) : Option ((ByteArray × (Int × Int × Int × Int × Int × Int) × Bool × Bool × (List (Bool × Bool × List Int)) × Int × Int × Int)) :=
  (tapearchiveref11_Copied_l0 d d 0 a0 (ByteArray.empty, (0, 0, 0, 0, 0, 0), false, false, [], 0, 0, 0) []).bind fun y3 =>
  some (y3.1.1, y3.1.2.1, y3.1.2.2.1, y3.1.2.2.2.1, y3.2.2, y3.1.2.2.2.2.2)
def cartridge_writable_1 (d : Nat) (a0 : Bool × Bool × List Int) : Option Bool :=
  if a0.2.1 = true then
   some true
  else
   (cartridge_block d a0).bind fun r1 =>
   some (!r1)
def slices_IndexFunc_api_Block_cartridge_writable_1_l0 (d : Nat) : Nat → (List (Bool × Bool × List Int)) → Int → Int → Option (Unit ⊕ Int)
  | 0, _, _, _ => none
  | k + 1, t0, t7, t8 =>
    if (decide (t8 < t7)) = true then
     if (decide ((0 : Int) ≤ t8 ∧ t8 < (t0.length : Int))) = true then
      (cartridge_writable_1 d (t0.getD t8.toNat zBlock)).bind fun r2 =>
      if r2 = true then
       some (.inr t8)
      else
       slices_IndexFunc_api_Block_cartridge_writable_1_l0 d k t0 t7 (IntKind.i64.wrap (t8 + 1))
     else none
    else
     some (.inl ())
def slices_IndexFunc_api_Block_cartridge_writable_1 (d : Nat) (a0 : List (Bool × Bool × List Int)) : Option Int :=
  (slices_IndexFunc_api_Block_cartridge_writable_1_l0 d d a0 (a0.length : Int) 0).bind fun y3 => match y3 with
  | .inl y3 =>
   some (-1)
  | .inr r4 =>
   some r4
def slices_ContainsFunc_api_Block_cartridge_writable_1 (d : Nat) (a0 : List (Bool × Bool × List Int)) : Option Bool :=
  (slices_IndexFunc_api_Block_cartridge_writable_1 d a0).bind fun r1 =>
  some (decide (r1 ≥ 0))
def cartridge_writable (d : Nat) (a0 : ByteArray × (Int × Int × Int × Int × Int × Int) × Bool × Bool × (List (Bool × Bool × List Int)) × Int × Int × Int) (a1 : Int) (a2 : List (Bool × Bool × List Int)) : Option Int :=
  (cartridge_Valid d a0).bind fun r1 =>
  if (!r1) = true then
   some 8
  else
   (slices_ContainsFunc_api_Block_cartridge_writable_1 d a2).bind fun r2 =>
   if r2 = true then
    some 8
   else
    if a0.2.2.2.1 = true then
     some 17
    else
     if (decide (a1 < 0)) = true then
      some 7
     else
      if (decide (a1 > (a0.2.2.2.2.1.length : Int))) = true then
       some 7
      else
       if a0.2.2.1 = true then
        if (decide (a1 < (a0.2.2.2.2.1.length : Int))) = true then
         some 17
        else
         (serpentine_Capacity d a0.2.1).bind fun r3 =>
         if (decide ((IntKind.i64.wrap (a1 + (a2.length : Int))) > r3)) = true then
          some 12
         else
          some 0
       else
        (serpentine_Capacity d a0.2.1).bind fun r4 =>
        if (decide ((IntKind.i64.wrap (a1 + (a2.length : Int))) > r4)) = true then
         some 12
        else
         some 0
def cartridge_with (d : Nat) (a0 : ByteArray × (Int × Int × Int × Int × Int × Int) × Bool × Bool × (List (Bool × Bool × List Int)) × Int × Int × Int) (a1 : List (Bool × Bool × List Int)) : Option ((ByteArray × (Int × Int × Int × Int × Int × Int) × Bool × Bool × (List (Bool × Bool × List Int)) × Int × Int × Int)) :=
  some (a0.1, a0.2.1, a0.2.2.1, a0.2.2.2.1, a1, a0.2.2.2.2.2)
def cartridge_Write (d : Nat) (a0 : ByteArray × (Int × Int × Int × Int × Int × Int) × Bool × Bool × (List (Bool × Bool × List Int)) × Int × Int × Int) (a1 : Int) (a2 : List (Bool × Bool × List Int)) : Option ((ByteArray × (Int × Int × Int × Int × Int × Int) × Bool × Bool × (List (Bool × Bool × List Int)) × Int × Int × Int) × Int) :=
  (cartridge_writable d a0 a1 a2).bind fun r1 =>
  if (!decide (r1 = 0)) = true then
   some ((ByteArray.empty, (0, 0, 0, 0, 0, 0), false, false, [], 0, 0, 0), r1)
  else
   if (decide ((a2.length : Int) = 0)) = true then
    (cartridge_copied d a0.2.2.2.2.1).bind fun r2 =>
    (cartridge_with d a0 r2).bind fun r3 =>
    some (r3, 0)
   else
    if (decide (0 ≤ (0 : Int) ∧ (0 : Int) ≤ a1 ∧ a1 ≤ (a0.2.2.2.2.1.length : Int))) = true then
     if (decide (a1 = a1)) = true then
      (cartridge_copied d ((a0.2.2.2.2.1.take a1.toNat).drop 0)).bind fun r4 =>
      (cartridge_copied d a2).bind fun r5 =>
      if (decide ((r4.length + r5.length) * 32 ≤ 140737488355328)) = true then
       (cartridge_with d a0 (r4 ++ r5)).bind fun r6 =>
       some (r6, 0)
      else none
     else none
    else none
def drive_Write_1 (d : Nat) (a0 : (Int × ByteArray × Int × Int × Int × Int) × (ByteArray × (Int × Int × Int × Int × Int × Int) × Bool × Bool × (List (Bool × Bool × List Int)) × Int × Int × Int) × Int × Int) (a1 : Int × Int × Int × Int × Int) (a2 : ByteArray × (Int × Int × Int × Int × Int × Int) × Bool × Bool × (List (Bool × Bool × List Int)) × Int × Int × Int) (a3 : List (Bool × Bool × List Int)) : Option (((Int × ByteArray × Int × Int × Int × Int) × (ByteArray × (Int × Int × Int × Int × Int × Int) × Bool × Bool × (List (Bool × Bool × List Int)) × Int × Int × Int) × Int × Int)) :=
  (drive_Worn d a1 a2).bind fun r1 =>
  if r1 = true then
   some (a0.1, a0.2.1, a0.2.2.1, 17)
  else
   if (decide ((a3.length : Int) = 0)) = true then
    some (a0.1, a0.2.1, a0.2.2.1, 8)
   else
    (cartridge_Write d a0.2.1 a0.1.2.2.1 a3).bind fun r2 =>
    if (decide (r2.2 = 0)) = true then
     (drive_done_passed d (a0.1, r2.1, a0.2.2.1, r2.2) (a3.length : Int)).bind fun r3 =>
     some r3
    else
     some (a0.1, r2.1, a0.2.2.1, r2.2)
def drive_after_drive_Write_1 (d : Nat) (a0 : Int × Int × Int × Int × Int) (a1 : Int × ByteArray × Int × Int × Int × Int) (a2 : ByteArray × (Int × Int × Int × Int × Int × Int) × Bool × Bool × (List (Bool × Bool × List Int)) × Int × Int × Int) (a3_0 : Int × Int × Int × Int × Int) (a3_1 : ByteArray × (Int × Int × Int × Int × Int × Int) × Bool × Bool × (List (Bool × Bool × List Int)) × Int × Int × Int) (a3_2 : List (Bool × Bool × List Int)) : Option (((Int × ByteArray × Int × Int × Int × Int) × (ByteArray × (Int × Int × Int × Int × Int × Int) × Bool × Bool × (List (Bool × Bool × List Int)) × Int × Int × Int) × Int × Int)) :=
  (drive_first d a0 a1 a2).bind fun r1 =>
  if (!decide (r1 = 0)) = true then
   some ((0, ByteArray.empty, 0, 0, 0, 0), (ByteArray.empty, (0, 0, 0, 0, 0, 0), false, false, [], 0, 0, 0), 0, r1)
  else
   (drive_own d a2).bind fun r2 =>
   (drive_Write_1 d (a1, r2, 0, 0) a3_0 a3_1 a3_2).bind fun r3 =>
   if (!decide (r3.2.2.2 = 0)) = true then
    if (!decide (r3.2.2.2 = 15)) = true then
     some ((0, ByteArray.empty, 0, 0, 0, 0), (ByteArray.empty, (0, 0, 0, 0, 0, 0), false, false, [], 0, 0, 0), 0, r3.2.2.2)
    else
     some r3
   else
    some r3
def drive_Write (d : Nat) (a0 : Int × Int × Int × Int × Int) (a1 : Int × ByteArray × Int × Int × Int × Int) (a2 : ByteArray × (Int × Int × Int × Int × Int × Int) × Bool × Bool × (List (Bool × Bool × List Int)) × Int × Int × Int) (a3 : List (Bool × Bool × List Int)) : Option ((Int × ByteArray × Int × Int × Int × Int) × (ByteArray × (Int × Int × Int × Int × Int × Int) × Bool × Bool × (List (Bool × Bool × List Int)) × Int × Int × Int) × Int × Int) :=
  (drive_after_drive_Write_1 d a0 a1 a2 a0 a2 a3).bind fun r1 =>
  some (r1.1, r1.2.1, r1.2.2.1, r1.2.2.2)
def tapearchiveref11_SameBlocks_l0 (d : Nat) : Nat → (List (Bool × Bool × List Int)) → (List (Bool × Bool × List Int)) → Int → Option (Unit ⊕ Bool)
  | 0, _, _, _ => none
  | k + 1, t0, t1, t5 =>
    if (decide (t5 < (t0.length : Int))) = true then
     if (decide ((0 : Int) ≤ t5 ∧ t5 < (t0.length : Int))) = true then
      if (decide ((0 : Int) ≤ t5 ∧ t5 < (t1.length : Int))) = true then
       if (!decide ((t0.getD t5.toNat zBlock).1 = (t1.getD t5.toNat zBlock).1)) = true then
        some (.inr false)
       else
        if (decide ((0 : Int) ≤ t5 ∧ t5 < (t0.length : Int))) = true then
         if (decide ((0 : Int) ≤ t5 ∧ t5 < (t1.length : Int))) = true then
          if (!decide ((t0.getD t5.toNat zBlock).2.1 = (t1.getD t5.toNat zBlock).2.1)) = true then
           some (.inr false)
          else
           if (decide ((0 : Int) ≤ t5 ∧ t5 < (t0.length : Int))) = true then
            if (decide ((0 : Int) ≤ t5 ∧ t5 < (t1.length : Int))) = true then
             if (!decide ((strOf (t0.getD t5.toNat zBlock).2.2) = (strOf (t1.getD t5.toNat zBlock).2.2))) = true then
              some (.inr false)
             else
              tapearchiveref11_SameBlocks_l0 d k t0 t1 (IntKind.i64.wrap (t5 + 1))
            else none
           else none
         else none
        else none
      else none
     else none
    else
     some (.inl ())
def tapearchiveref11_SameBlocks (d : Nat) (a0 : List (Bool × Bool × List Int)) (a1 : List (Bool × Bool × List Int)) : Option Bool :=
  if (!decide ((a0.length : Int) = (a1.length : Int))) = true then
   some false
  else
   (tapearchiveref11_SameBlocks_l0 d d a0 a1 0).bind fun y2 => match y2 with
   | .inl y2 =>
    some true
   | .inr r3 =>
    some r3
def tapearchivelaw11_DriveReads (d : Nat) (a0 : Int × Int × Int × Int × Int) (a1 : ByteArray × (Int × Int × Int × Int × Int × Int) × Bool × Bool × (List (Bool × Bool × List Int)) × Int × Int × Int) (a2 : Int) (a3 : List (Bool × Bool × List Int)) : Option Bool :=
  (tapearchivelaw11_lives d).bind fun r1 =>
  if (!r1) = true then
   some false
  else
   (tapearchivelaw11_few d [a1] [(0, 0, 0, a3)] 1).bind fun r2 =>
   if (!r2) = true then
    some true
   else
    (tapearchiveref11_Copied d a1).bind fun r3 =>
    (drive_Load d a0 (0, ByteArray.empty, 0, 0, 0, 0) r3).bind fun r4 =>
    if (!decide (r4.2.2.2 = 0)) = true then
     some true
    else
     (drive_Seek d a0 r4.1 r4.2.1 a2).bind fun r5 =>
     if (!decide (r5.2.2.2 = 0)) = true then
      some true
     else
      (drive_Write d a0 r5.1 r5.2.1 a3).bind fun r6 =>
      if (!decide (r6.2.2.2 = 0)) = true then
       some true
      else
       (show Option ((Int × (List (Bool × Bool × List Int)) × (Int × Int × Int × Int × Int) × (Int × ByteArray × Int × Int × Int × Int) × (ByteArray × (Int × Int × Int × Int × Int × Int) × Bool × Bool × (List (Bool × Bool × List Int)) × Int × Int × Int)) ⊕ Bool) from
        if (!decide (r6.1.2.2.1 = (IntKind.i64.wrap (a2 + (a3.length : Int))))) = true then
         some (.inr false)
        else
         if (!decide ((r6.2.1.2.2.2.2.1.length : Int) = (IntKind.i64.wrap (a2 + (a3.length : Int))))) = true then
          some (.inr false)
         else
          if (decide (0 ≤ (0 : Int) ∧ (0 : Int) ≤ a2 ∧ a2 ≤ (r6.2.1.2.2.2.2.1.length : Int))) = true then
           if (decide (0 ≤ (0 : Int) ∧ (0 : Int) ≤ a2 ∧ a2 ≤ (a1.2.2.2.2.1.length : Int))) = true then
            (tapearchiveref11_SameBlocks d ((r6.2.1.2.2.2.2.1.take a2.toNat).drop 0) ((a1.2.2.2.2.1.take a2.toNat).drop 0)).bind fun r8 =>
            if (!r8) = true then
             some (.inr false)
            else
             some (.inl (a2, a3, a0, r6.1, r6.2.1))
           else none
          else none).bind fun y9 => match y9 with
       | .inl y9 =>
        (drive_Seek d y9.2.2.1 y9.2.2.2.1 y9.2.2.2.2 y9.1).bind fun r10 =>
        if (!decide (r10.2.2.2 = 0)) = true then
         some false
        else
         (drive_Read d y9.2.2.1 r10.1 r10.2.1 (y9.2.1.length : Int)).bind fun r11 =>
         if (decide (r11.2.2.2.2 = 0)) = true then
          (tapearchiveref11_SameBlocks d r11.2.2.1 y9.2.1).bind fun r12 =>
          if r12 = true then
           some (decide (r11.1.2.2.1 = (IntKind.i64.wrap (y9.1 + (y9.2.1.length : Int)))))
          else
           some false
         else
          some false
       | .inr x => some x
def drive_Clean (d : Nat) (a0 : Int × Int × Int × Int × Int) (a1 : Int × ByteArray × Int × Int × Int × Int) : Option ((Int × ByteArray × Int × Int × Int × Int) × Int × Int) :=
  (show Option (((Int × Int × Int × Int × Int) × (Int × ByteArray × Int × Int × Int × Int) × (Int × ByteArray × Int × Int × Int × Int)) ⊕ ((Int × ByteArray × Int × Int × Int × Int) × Int × Int)) from
   (drive_sound d a0).bind fun r2 =>
   if (!r2) = true then
    some (.inr ((0, ByteArray.empty, 0, 0, 0, 0), 0, 8))
   else
    (drive_valid d a1).bind fun r3 =>
    if (!r3) = true then
     some (.inr ((0, ByteArray.empty, 0, 0, 0, 0), 0, 8))
    else
     if (decide (a1.1 = 2)) = true then
      some (.inr ((0, ByteArray.empty, 0, 0, 0, 0), 0, 16))
     else
      if (decide (a1.1 = 1)) = true then
       some (.inr ((0, ByteArray.empty, 0, 0, 0, 0), 0, 14))
      else
       some (.inl (a0, a1, (0, ByteArray.empty, 0, 0, 0, 0)))).bind fun y4 => match y4 with
  | .inl y4 =>
   some ((y4.2.1.1, y4.2.1.2.1, y4.2.1.2.2.1, y4.2.1.2.2.2.1, y4.2.1.2.2.2.2.1, 0), y4.1.2.2.1, 0)
  | .inr x => some x
def tapearchivelaw11_program (d : Nat) (a0 : Int × Int × Int × Int × Int) (a1 : Int × ByteArray × Int × Int × Int × Int) (a2 : ByteArray × (Int × Int × Int × Int × Int × Int) × Bool × Bool × (List (Bool × Bool × List Int)) × Int × Int × Int) (a3 : Int × Int × Int × List (Bool × Bool × List Int)) : Option (((Int × ByteArray × Int × Int × Int × Int) × (ByteArray × (Int × Int × Int × Int × Int × Int) × Bool × Bool × (List (Bool × Bool × List Int)) × Int × Int × Int) × (List (Bool × Bool × List Int)) × Int × Int)) :=
  if (decide (a3.1 = 0)) = true then
   (drive_Load d a0 a1 a2).bind fun r1 =>
   some (r1.1, r1.2.1, [], r1.2.2)
  else
   if (decide (a3.1 = 1)) = true then
    (drive_Unload d a0 a1 a2).bind fun r2 =>
    some (r2.1, r2.2.1, [], r2.2.2)
   else
    if (decide (a3.1 = 2)) = true then
     (drive_Seek d a0 a1 a2 a3.2.2.1).bind fun r3 =>
     some (r3.1, r3.2.1, [], r3.2.2)
    else
     if (decide (a3.1 = 3)) = true then
      (drive_Read d a0 a1 a2 a3.2.2.1).bind fun r4 =>
      some r4
     else
      if (decide (a3.1 = 4)) = true then
       (drive_Write d a0 a1 a2 a3.2.2.2).bind fun r5 =>
       some (r5.1, r5.2.1, [], r5.2.2)
      else
       (drive_Clean d a0 a1).bind fun r6 =>
       some (r6.1, a2, [], r6.2)
def tapearchiveref11_Due (d : Nat) (a0 : Int × Int × Int × Int × Int) (a1 : Int × ByteArray × Int × Int × Int × Int) : Option Bool :=
  if (decide (a0.2.2.2.1 > 0)) = true then
   some (decide (a1.2.2.2.2.2 ≥ a0.2.2.2.1))
  else
   some false
def tapearchiveref11_count (d : Nat) (a0 : Int) : Option Bool :=
  if (decide (a0 ≥ 0)) = true then
   some (decide (a0 ≤ 1125899906842624))
  else
   some false
def tapearchiveref11_model (d : Nat) (a0 : Int × Int × Int × Int × Int) : Option Bool :=
  if (decide (a0.1 ≥ 0)) = true then
   if (decide (a0.1 ≤ 1000000)) = true then
    if (decide (a0.2.1 ≥ 0)) = true then
     if (decide (a0.2.1 ≤ 1000000)) = true then
      if (decide (a0.2.2.1 ≥ 0)) = true then
       if (decide (a0.2.2.1 ≤ 1000000)) = true then
        (tapearchiveref11_count d a0.2.2.2.1).bind fun r1 =>
        if r1 = true then
         (tapearchiveref11_count d a0.2.2.2.2).bind fun r2 =>
         some r2
        else
         some false
       else
        some false
      else
       some false
     else
      some false
    else
     some false
   else
    some false
  else
   some false
def tapearchiveref11_drive (d : Nat) (a0 : Int × ByteArray × Int × Int × Int × Int) : Option Bool :=
  (show Option (((Int × ByteArray × Int × Int × Int × Int)) ⊕ Bool) from
   if (decide (a0.1 < 0)) = true then
    some (.inr false)
   else
    if (decide (a0.1 > 2)) = true then
     some (.inr false)
    else
     (tapearchiveref11_count d a0.2.2.2.1).bind fun r2 =>
     if (!r2) = true then
      some (.inr false)
     else
      (tapearchiveref11_count d a0.2.2.2.2.1).bind fun r3 =>
      if (!r3) = true then
       some (.inr false)
      else
       (tapearchiveref11_count d a0.2.2.2.2.2).bind fun r4 =>
       if (!r4) = true then
        some (.inr false)
       else
        if (decide (a0.2.2.1 < 0)) = true then
         some (.inr false)
        else
         if (decide (a0.2.2.1 > 4096)) = true then
          some (.inr false)
         else
          some (.inl a0)).bind fun y5 => match y5 with
  | .inl y5 =>
   if (!decide (y5.1 = 0)) = true then
    some true
   else
    if (decide (y5.2.1 = ⟨#[]⟩)) = true then
     some (decide (y5.2.2.1 = 0))
    else
     some false
  | .inr x => some x
def tapearchiveref09_time (d : Nat) (a0 : Int) : Option Bool :=
  if (decide (a0 ≥ 0)) = true then
   some (decide (a0 ≤ 1000000))
  else
   some false
def tapearchiveref09_Valid (d : Nat) (a0 : Int × Int × Int × Int × Int × Int) : Option Bool :=
  (show Option (((Int × Int × Int × Int × Int × Int)) ⊕ Bool) from
   if (decide (a0.1 < 1)) = true then
    some (.inr false)
   else
    if (decide (a0.1 > 32)) = true then
     some (.inr false)
    else
     if (decide (a0.2.1 < 1)) = true then
      some (.inr false)
     else
      if (decide (a0.2.1 > 4096)) = true then
       some (.inr false)
      else
       if (decide ((IntKind.i64.wrap (a0.1 * a0.2.1)) > 4096)) = true then
        some (.inr false)
       else
        some (.inl a0)).bind fun y2 => match y2 with
  | .inl y2 =>
   (tapearchiveref09_time d y2.2.2.1).bind fun r3 =>
   if r3 = true then
    (tapearchiveref09_time d y2.2.2.2.1).bind fun r4 =>
    if r4 = true then
     (tapearchiveref09_time d y2.2.2.2.2.1).bind fun r5 =>
     if r5 = true then
      (tapearchiveref09_time d y2.2.2.2.2.2).bind fun r6 =>
      some r6
     else
      some false
    else
     some false
   else
    some false
  | .inr x => some x
def tapearchiveref09_Capacity (d : Nat) (a0 : Int × Int × Int × Int × Int × Int) : Option Int :=
  (tapearchiveref09_Valid d a0).bind fun r1 =>
  if (!r1) = true then
   some 0
  else
   some (IntKind.i64.wrap (a0.1 * a0.2.1))
def tapearchiveref10_Barcode_l0 (d : Nat) : Nat → ByteArray → Int → Option (ByteArray ⊕ Bool)
  | 0, _, _ => none
  | k + 1, t0, t3 =>
    if (decide (t3 < (t0.size : Int))) = true then
     if (decide ((0 : Int) ≤ t3 ∧ t3 < (ByteArray.size t0 : Int))) = true then
      if (decide ((((ByteArray.data t0).getD t3.toNat 0).toNat : Int) ≥ 65)) = true then
       if (decide ((0 : Int) ≤ t3 ∧ t3 < (ByteArray.size t0 : Int))) = true then
        if (decide ((((ByteArray.data t0).getD t3.toNat 0).toNat : Int) ≤ 90)) = true then
         tapearchiveref10_Barcode_l0 d k t0 (IntKind.i64.wrap (t3 + 1))
        else
         if (decide ((0 : Int) ≤ t3 ∧ t3 < (ByteArray.size t0 : Int))) = true then
          if (decide ((((ByteArray.data t0).getD t3.toNat 0).toNat : Int) ≥ 48)) = true then
           if (decide ((0 : Int) ≤ t3 ∧ t3 < (ByteArray.size t0 : Int))) = true then
            if (!(decide ((((ByteArray.data t0).getD t3.toNat 0).toNat : Int) ≤ 57))) = true then
             some (.inr false)
            else
             tapearchiveref10_Barcode_l0 d k t0 (IntKind.i64.wrap (t3 + 1))
           else none
          else
           some (.inr false)
         else none
       else none
      else
       if (decide ((0 : Int) ≤ t3 ∧ t3 < (ByteArray.size t0 : Int))) = true then
        if (decide ((((ByteArray.data t0).getD t3.toNat 0).toNat : Int) ≥ 48)) = true then
         if (decide ((0 : Int) ≤ t3 ∧ t3 < (ByteArray.size t0 : Int))) = true then
          if (!(decide ((((ByteArray.data t0).getD t3.toNat 0).toNat : Int) ≤ 57))) = true then
           some (.inr false)
          else
           tapearchiveref10_Barcode_l0 d k t0 (IntKind.i64.wrap (t3 + 1))
         else none
        else
         some (.inr false)
       else none
     else none
    else
     some (.inl t0)
def tapearchiveref10_Barcode (d : Nat) (a0 : ByteArray) : Option Bool :=
  (tapearchiveref10_Barcode_l0 d d a0 0).bind fun y2 => match y2 with
  | .inl y2 =>
   if (decide ((y2.size : Int) ≥ 1)) = true then
    some (decide ((y2.size : Int) ≤ 24))
   else
    some false
  | .inr r3 =>
   some r3
def tapearchiveref10_block (d : Nat) (a0 : Bool × Bool × List Int) : Option Bool :=
  if a0.1 = true then
   some (decide ((a0.2.2.length : Int) = 0))
  else
   if (decide ((a0.2.2.length : Int) ≥ 1)) = true then
    some (decide ((a0.2.2.length : Int) ≤ 64))
   else
    some false
def tapearchiveref10_count (d : Nat) (a0 : Int) : Option Bool :=
  if (decide (a0 ≥ 0)) = true then
   some (decide (a0 ≤ 1125899906842624))
  else
   some false
def tapearchiveref10_Valid_l0 (d : Nat) : Nat → Int → (ByteArray × (Int × Int × Int × Int × Int × Int) × Bool × Bool × (List (Bool × Bool × List Int)) × Int × Int × Int) → Option (((ByteArray × (Int × Int × Int × Int × Int × Int) × Bool × Bool × (List (Bool × Bool × List Int)) × Int × Int × Int)) ⊕ Bool)
  | 0, _, _ => none
  | k + 1, t3, h1 =>
    if (decide (t3 < (h1.2.2.2.2.1.length : Int))) = true then
     if (decide ((0 : Int) ≤ t3 ∧ t3 < (h1.2.2.2.2.1.length : Int))) = true then
      (tapearchiveref10_block d (h1.2.2.2.2.1.getD t3.toNat zBlock)).bind fun r7 =>
      if (!r7) = true then
       some (.inr false)
      else
       tapearchiveref10_Valid_l0 d k (IntKind.i64.wrap (t3 + 1)) h1
     else none
    else
     some (.inl h1)
def tapearchiveref10_Valid (d : Nat) (a0 : ByteArray × (Int × Int × Int × Int × Int × Int) × Bool × Bool × (List (Bool × Bool × List Int)) × Int × Int × Int) : Option Bool :=
  (show Option (((ByteArray × (Int × Int × Int × Int × Int × Int) × Bool × Bool × (List (Bool × Bool × List Int)) × Int × Int × Int)) ⊕ Bool) from
   (tapearchiveref10_Barcode d a0.1).bind fun r2 =>
   if (!r2) = true then
    some (.inr false)
   else
    (tapearchiveref09_Valid d a0.2.1).bind fun r3 =>
    if (!r3) = true then
     some (.inr false)
    else
     (tapearchiveref09_Capacity d a0.2.1).bind fun r4 =>
     if (decide ((a0.2.2.2.2.1.length : Int) > r4)) = true then
      some (.inr false)
     else
      some (.inl a0)).bind fun y5 => match y5 with
  | .inl y5 =>
   (tapearchiveref10_Valid_l0 d d 0 y5).bind fun y8 => match y8 with
   | .inl y8 =>
    (tapearchiveref10_count d y8.2.2.2.2.2.1).bind fun r10 =>
    if r10 = true then
     (tapearchiveref10_count d y8.2.2.2.2.2.2.1).bind fun r11 =>
     if r11 = true then
      (tapearchiveref10_count d y8.2.2.2.2.2.2.2).bind fun r12 =>
      some r12
     else
      some false
    else
     some false
   | .inr r9 =>
    some r9
  | .inr x => some x
def tapearchiveref11_more (d : Nat) (a0 : Int) (a1 : Int) : Option Int :=
  some (min (IntKind.i64.wrap (a0 + a1)) 1125899906842624)
def tapearchiveref11_Load (d : Nat) (a0 : Int × Int × Int × Int × Int) (a1 : Int × ByteArray × Int × Int × Int × Int) (a2 : ByteArray × (Int × Int × Int × Int × Int × Int) × Bool × Bool × (List (Bool × Bool × List Int)) × Int × Int × Int) : Option ((Int × ByteArray × Int × Int × Int × Int) × (ByteArray × (Int × Int × Int × Int × Int × Int) × Bool × Bool × (List (Bool × Bool × List Int)) × Int × Int × Int) × Int × Int) :=
  (show Option (Int × (Int × Int × Int × Int × Int) × (Int × ByteArray × Int × Int × Int × Int) × (ByteArray × (Int × Int × Int × Int × Int × Int) × Bool × Bool × (List (Bool × Bool × List Int)) × Int × Int × Int) × (Int × ByteArray × Int × Int × Int × Int) × (ByteArray × (Int × Int × Int × Int × Int × Int) × Bool × Bool × (List (Bool × Bool × List Int)) × Int × Int × Int)) from
   (tapearchiveref11_model d a0).bind fun r2 =>
   if (!r2) = true then
    some (8, a0, a1, a2, (0, ByteArray.empty, 0, 0, 0, 0), (ByteArray.empty, (0, 0, 0, 0, 0, 0), false, false, [], 0, 0, 0))
   else
    (tapearchiveref11_drive d a1).bind fun r3 =>
    if (!r3) = true then
     some (8, a0, a1, a2, (0, ByteArray.empty, 0, 0, 0, 0), (ByteArray.empty, (0, 0, 0, 0, 0, 0), false, false, [], 0, 0, 0))
    else
     (tapearchiveref10_Valid d a2).bind fun r4 =>
     if (!r4) = true then
      some (8, a0, a1, a2, (0, ByteArray.empty, 0, 0, 0, 0), (ByteArray.empty, (0, 0, 0, 0, 0, 0), false, false, [], 0, 0, 0))
     else
      if (decide (a1.1 = 2)) = true then
       some (16, a0, a1, a2, (0, ByteArray.empty, 0, 0, 0, 0), (ByteArray.empty, (0, 0, 0, 0, 0, 0), false, false, [], 0, 0, 0))
      else
       if (decide (a1.1 = 1)) = true then
        some (14, a0, a1, a2, (0, ByteArray.empty, 0, 0, 0, 0), (ByteArray.empty, (0, 0, 0, 0, 0, 0), false, false, [], 0, 0, 0))
       else
        (tapearchiveref11_Due d a0 a1).bind fun r5 =>
        if r5 = true then
         some (13, a0, a1, a2, (0, ByteArray.empty, 0, 0, 0, 0), (ByteArray.empty, (0, 0, 0, 0, 0, 0), false, false, [], 0, 0, 0))
        else
         some (0, a0, a1, a2, (0, ByteArray.empty, 0, 0, 0, 0), (ByteArray.empty, (0, 0, 0, 0, 0, 0), false, false, [], 0, 0, 0))).bind fun y6 =>
  if (!decide (y6.1 = 0)) = true then
   some ((0, ByteArray.empty, 0, 0, 0, 0), (ByteArray.empty, (0, 0, 0, 0, 0, 0), false, false, [], 0, 0, 0), 0, y6.1)
  else
   (tapearchiveref11_more d y6.2.2.1.2.2.2.1 1).bind fun r7 =>
   (tapearchiveref11_more d y6.2.2.2.1.2.2.2.2.2.2.1 1).bind fun r8 =>
   some ((1, y6.2.2.2.1.1, 0, r7, y6.2.2.1.2.2.2.2), (y6.2.2.2.1.1, y6.2.2.2.1.2.1, y6.2.2.2.1.2.2.1, y6.2.2.2.1.2.2.2.1, y6.2.2.2.1.2.2.2.2.1, y6.2.2.2.1.2.2.2.2.2.1, r8, y6.2.2.2.1.2.2.2.2.2.2.2), y6.2.1.1, 0)
def tapearchiveref09_Place : Nat → (Int × Int × Int × Int × Int × Int) → Int → Option ((Int × Int × Bool) × Bool)
  | 0, _, _ => none
  | d + 1, a0, a1 =>
  (show Option ((Int × (Int × Int × Int × Int × Int × Int) × (Int × Int × Bool)) ⊕ ((Int × Int × Bool) × Bool)) from
   (tapearchiveref09_Valid d a0).bind fun r2 =>
   if (!r2) = true then
    some (.inr ((0, 0, false), false))
   else
    if (decide (a1 < 0)) = true then
     some (.inr ((0, 0, false), false))
    else
     (tapearchiveref09_Capacity d a0).bind fun r3 =>
     if (decide (a1 > r3)) = true then
      some (.inr ((0, 0, false), false))
     else
      some (.inl (a1, a0, (0, 0, false)))).bind fun y4 => match y4 with
  | .inl y4 =>
   (tapearchiveref09_Capacity d y4.2.1).bind fun r5 =>
   if (decide (y4.1 = r5)) = true then
    (tapearchiveref09_Place d y4.2.1 (IntKind.i64.wrap (y4.1 - 1))).bind fun r6 =>
    if r6.1.2.2 = true then
     some ((r6.1.1, (IntKind.i64.wrap (r6.1.2.1 - 1)), r6.1.2.2), true)
    else
     some ((r6.1.1, (IntKind.i64.wrap (r6.1.2.1 + 1)), r6.1.2.2), true)
   else
    if (decide (y4.2.1.2.1 = 0)) = true then
     none
    else
     if (decide (y4.2.1.2.1 = 0)) = true then
      none
     else
      if (decide ((Int.tmod (IntKind.i64.wrap (Int.tdiv y4.1 y4.2.1.2.1)) 2) = 1)) = true then
       some (((IntKind.i64.wrap (Int.tdiv y4.1 y4.2.1.2.1)), (IntKind.i64.wrap ((IntKind.i64.wrap (y4.2.1.2.1 - 1)) - (Int.tmod y4.1 y4.2.1.2.1))), true), true)
      else
       some (((IntKind.i64.wrap (Int.tdiv y4.1 y4.2.1.2.1)), (Int.tmod y4.1 y4.2.1.2.1), false), true)
  | .inr x => some x
def tapearchiveref09_size (d : Nat) (a0 : Int) : Option Int :=
  if (decide (a0 < 0)) = true then
   some (IntKind.i64.wrap (0 - a0))
  else
   some a0
def tapearchiveref09_Locate (d : Nat) (a0 : Int × Int × Int × Int × Int × Int) (a1 : Int) (a2 : Int) : Option Int :=
  (tapearchiveref09_Place d a0 a1).bind fun r1 =>
  (tapearchiveref09_Place d a0 a2).bind fun r2 =>
  (show Option (((Int × Int × Int × Int × Int × Int) × (Int × Int × Bool) × (Int × Int × Bool)) ⊕ Int) from
   if (!r1.2) = true then
    some (.inr 0)
   else
    if (!r2.2) = true then
     some (.inr 0)
    else
     if (decide (a1 = a2)) = true then
      some (.inr 0)
     else
      some (.inl (a0, r1.1, r2.1))).bind fun y4 => match y4 with
  | .inl y4 =>
   (tapearchiveref09_size d (IntKind.i64.wrap (y4.2.2.2.1 - y4.2.1.2.1))).bind fun r5 =>
   (tapearchiveref09_size d (IntKind.i64.wrap (y4.2.2.1 - y4.2.1.1))).bind fun r6 =>
   if (decide ((IntKind.i64.wrap (y4.2.2.2.1 - y4.2.1.2.1)) > 0)) = true then
    if y4.2.2.2.2 = true then
     some (IntKind.i64.wrap ((IntKind.i64.wrap ((IntKind.i64.wrap (y4.1.2.2.1 * r5)) + (IntKind.i64.wrap (y4.1.2.2.2.2.1 * r6)))) + y4.1.2.2.2.1))
    else
     if (decide ((IntKind.i64.wrap (y4.2.2.2.1 - y4.2.1.2.1)) < 0)) = true then
      if (!y4.2.2.2.2) = true then
       some (IntKind.i64.wrap ((IntKind.i64.wrap ((IntKind.i64.wrap (y4.1.2.2.1 * r5)) + (IntKind.i64.wrap (y4.1.2.2.2.2.1 * r6)))) + y4.1.2.2.2.1))
      else
       if (decide ((IntKind.i64.wrap (y4.2.2.2.1 - y4.2.1.2.1)) = 0)) = true then
        if (!decide (y4.2.1.2.2 = y4.2.2.2.2)) = true then
         some (IntKind.i64.wrap ((IntKind.i64.wrap ((IntKind.i64.wrap (y4.1.2.2.1 * r5)) + (IntKind.i64.wrap (y4.1.2.2.2.2.1 * r6)))) + y4.1.2.2.2.1))
        else
         some (IntKind.i64.wrap ((IntKind.i64.wrap (y4.1.2.2.1 * r5)) + (IntKind.i64.wrap (y4.1.2.2.2.2.1 * r6))))
       else
        some (IntKind.i64.wrap ((IntKind.i64.wrap (y4.1.2.2.1 * r5)) + (IntKind.i64.wrap (y4.1.2.2.2.2.1 * r6))))
     else
      if (decide ((IntKind.i64.wrap (y4.2.2.2.1 - y4.2.1.2.1)) = 0)) = true then
       if (!decide (y4.2.1.2.2 = y4.2.2.2.2)) = true then
        some (IntKind.i64.wrap ((IntKind.i64.wrap ((IntKind.i64.wrap (y4.1.2.2.1 * r5)) + (IntKind.i64.wrap (y4.1.2.2.2.2.1 * r6)))) + y4.1.2.2.2.1))
       else
        some (IntKind.i64.wrap ((IntKind.i64.wrap (y4.1.2.2.1 * r5)) + (IntKind.i64.wrap (y4.1.2.2.2.2.1 * r6))))
      else
       some (IntKind.i64.wrap ((IntKind.i64.wrap (y4.1.2.2.1 * r5)) + (IntKind.i64.wrap (y4.1.2.2.2.2.1 * r6))))
   else
    if (decide ((IntKind.i64.wrap (y4.2.2.2.1 - y4.2.1.2.1)) < 0)) = true then
     if (!y4.2.2.2.2) = true then
      some (IntKind.i64.wrap ((IntKind.i64.wrap ((IntKind.i64.wrap (y4.1.2.2.1 * r5)) + (IntKind.i64.wrap (y4.1.2.2.2.2.1 * r6)))) + y4.1.2.2.2.1))
     else
      if (decide ((IntKind.i64.wrap (y4.2.2.2.1 - y4.2.1.2.1)) = 0)) = true then
       if (!decide (y4.2.1.2.2 = y4.2.2.2.2)) = true then
        some (IntKind.i64.wrap ((IntKind.i64.wrap ((IntKind.i64.wrap (y4.1.2.2.1 * r5)) + (IntKind.i64.wrap (y4.1.2.2.2.2.1 * r6)))) + y4.1.2.2.2.1))
       else
        some (IntKind.i64.wrap ((IntKind.i64.wrap (y4.1.2.2.1 * r5)) + (IntKind.i64.wrap (y4.1.2.2.2.2.1 * r6))))
      else
       some (IntKind.i64.wrap ((IntKind.i64.wrap (y4.1.2.2.1 * r5)) + (IntKind.i64.wrap (y4.1.2.2.2.2.1 * r6))))
    else
     if (decide ((IntKind.i64.wrap (y4.2.2.2.1 - y4.2.1.2.1)) = 0)) = true then
      if (!decide (y4.2.1.2.2 = y4.2.2.2.2)) = true then
       some (IntKind.i64.wrap ((IntKind.i64.wrap ((IntKind.i64.wrap (y4.1.2.2.1 * r5)) + (IntKind.i64.wrap (y4.1.2.2.2.2.1 * r6)))) + y4.1.2.2.2.1))
      else
       some (IntKind.i64.wrap ((IntKind.i64.wrap (y4.1.2.2.1 * r5)) + (IntKind.i64.wrap (y4.1.2.2.2.2.1 * r6))))
     else
      some (IntKind.i64.wrap ((IntKind.i64.wrap (y4.1.2.2.1 * r5)) + (IntKind.i64.wrap (y4.1.2.2.2.2.1 * r6))))
  | .inr x => some x
def tapearchiveref11_first (d : Nat) (a0 : Int × Int × Int × Int × Int) (a1 : Int × ByteArray × Int × Int × Int × Int) (a2 : ByteArray × (Int × Int × Int × Int × Int × Int) × Bool × Bool × (List (Bool × Bool × List Int)) × Int × Int × Int) : Option Int :=
  (tapearchiveref11_model d a0).bind fun r1 =>
  if (!r1) = true then
   some 8
  else
   (tapearchiveref11_drive d a1).bind fun r2 =>
   if (!r2) = true then
    some 8
   else
    (tapearchiveref10_Valid d a2).bind fun r3 =>
    if (!r3) = true then
     some 8
    else
     if (decide (a1.1 = 2)) = true then
      some 16
     else
      if (decide (a1.1 = 0)) = true then
       some 13
      else
       if (!decide (a1.2.1 = a2.1)) = true then
        some 11
       else
        if (decide (a1.2.2.1 > (a2.2.2.2.2.1.length : Int))) = true then
         some 8
        else
         some 0
def tapearchiveref09_Passes (d : Nat) (a0 : Int × Int × Int × Int × Int × Int) (a1 : Int) (a2 : Int) : Option Int :=
  (tapearchiveref09_Place d a0 a1).bind fun r1 =>
  (tapearchiveref09_Place d a0 a2).bind fun r2 =>
  (show Option (((Int × Int × Int × Int × Int × Int) × (Int × Int × Bool) × (Int × Int × Bool)) ⊕ Int) from
   if (!r1.2) = true then
    some (.inr 0)
   else
    if (!r2.2) = true then
     some (.inr 0)
    else
     some (.inl (a0, r1.1, r2.1))).bind fun y4 => match y4 with
  | .inl y4 =>
   (tapearchiveref09_size d (IntKind.i64.wrap (y4.2.2.2.1 - y4.2.1.2.1))).bind fun r5 =>
   if (decide (y4.1.2.1 = 0)) = true then
    none
   else
    some (IntKind.i64.wrap (Int.tdiv (IntKind.i64.wrap ((IntKind.i64.wrap ((IntKind.i64.wrap (r5 * 1000)) + y4.1.2.1)) - 1)) y4.1.2.1))
  | .inr x => some x
def tapearchiveref11_move (d : Nat) (a0 : Int × ByteArray × Int × Int × Int × Int) (a1 : ByteArray × (Int × Int × Int × Int × Int × Int) × Bool × Bool × (List (Bool × Bool × List Int)) × Int × Int × Int) (a2 : Int) : Option ((Int × ByteArray × Int × Int × Int × Int) × (ByteArray × (Int × Int × Int × Int × Int × Int) × Bool × Bool × (List (Bool × Bool × List Int)) × Int × Int × Int)) :=
  (tapearchiveref09_Passes d a1.2.1 a0.2.2.1 a2).bind fun r1 =>
  (tapearchiveref11_more d a0.2.2.2.2.1 r1).bind fun r2 =>
  (tapearchiveref11_more d a0.2.2.2.2.2 r1).bind fun r3 =>
  (tapearchiveref11_more d a1.2.2.2.2.2.2.2 r1).bind fun r4 =>
  some ((a0.1, a0.2.1, a2, a0.2.2.2.1, r2, r3), (a1.1, a1.2.1, a1.2.2.1, a1.2.2.2.1, a1.2.2.2.2.1, a1.2.2.2.2.2.1, a1.2.2.2.2.2.2.1, r4))
def tapearchiveref11_Unload (d : Nat) (a0 : Int × Int × Int × Int × Int) (a1 : Int × ByteArray × Int × Int × Int × Int) (a2 : ByteArray × (Int × Int × Int × Int × Int × Int) × Bool × Bool × (List (Bool × Bool × List Int)) × Int × Int × Int) : Option ((Int × ByteArray × Int × Int × Int × Int) × (ByteArray × (Int × Int × Int × Int × Int × Int) × Bool × Bool × (List (Bool × Bool × List Int)) × Int × Int × Int) × Int × Int) :=
  (tapearchiveref11_first d a0 a1 a2).bind fun r1 =>
  if (!decide (r1 = 0)) = true then
   some ((0, ByteArray.empty, 0, 0, 0, 0), (ByteArray.empty, (0, 0, 0, 0, 0, 0), false, false, [], 0, 0, 0), 0, r1)
  else
   (tapearchiveref09_Locate d a2.2.1 a1.2.2.1 0).bind fun r2 =>
   (tapearchiveref11_move d a1 a2 0).bind fun r3 =>
   some ((0, ⟨#[]⟩, r3.1.2.2), r3.2, (IntKind.i64.wrap (r2 + a0.2.1)), 0)
def tapearchiveref11_Seek (d : Nat) (a0 : Int × Int × Int × Int × Int) (a1 : Int × ByteArray × Int × Int × Int × Int) (a2 : ByteArray × (Int × Int × Int × Int × Int × Int) × Bool × Bool × (List (Bool × Bool × List Int)) × Int × Int × Int) (a3 : Int) : Option ((Int × ByteArray × Int × Int × Int × Int) × (ByteArray × (Int × Int × Int × Int × Int × Int) × Bool × Bool × (List (Bool × Bool × List Int)) × Int × Int × Int) × Int × Int) :=
  (tapearchiveref11_first d a0 a1 a2).bind fun r1 =>
  (show Option (Int × Int × (Int × ByteArray × Int × Int × Int × Int) × (ByteArray × (Int × Int × Int × Int × Int × Int) × Bool × Bool × (List (Bool × Bool × List Int)) × Int × Int × Int) × (Int × ByteArray × Int × Int × Int × Int) × (ByteArray × (Int × Int × Int × Int × Int × Int) × Bool × Bool × (List (Bool × Bool × List Int)) × Int × Int × Int)) from
   if (decide (r1 = 0)) = true then
    if (decide (a3 < 0)) = true then
     some (a3, 7, a1, a2, (0, ByteArray.empty, 0, 0, 0, 0), (ByteArray.empty, (0, 0, 0, 0, 0, 0), false, false, [], 0, 0, 0))
    else
     if (decide (a3 > (a2.2.2.2.2.1.length : Int))) = true then
      some (a3, 7, a1, a2, (0, ByteArray.empty, 0, 0, 0, 0), (ByteArray.empty, (0, 0, 0, 0, 0, 0), false, false, [], 0, 0, 0))
     else
      some (a3, r1, a1, a2, (0, ByteArray.empty, 0, 0, 0, 0), (ByteArray.empty, (0, 0, 0, 0, 0, 0), false, false, [], 0, 0, 0))
   else
    some (a3, r1, a1, a2, (0, ByteArray.empty, 0, 0, 0, 0), (ByteArray.empty, (0, 0, 0, 0, 0, 0), false, false, [], 0, 0, 0))).bind fun y3 =>
  if (!decide (y3.2.1 = 0)) = true then
   some ((0, ByteArray.empty, 0, 0, 0, 0), (ByteArray.empty, (0, 0, 0, 0, 0, 0), false, false, [], 0, 0, 0), 0, y3.2.1)
  else
   (tapearchiveref09_Locate d y3.2.2.2.1.2.1 y3.2.2.1.2.2.1 y3.1).bind fun r4 =>
   (tapearchiveref11_move d y3.2.2.1 y3.2.2.2.1 y3.1).bind fun r5 =>
   some (r5.1, r5.2, r4, 0)
def tapearchiveref09_Read_l0 (d : Nat) : Nat → Int → Int → (Int × Int × Int × Int × Int × Int) → (Int × Int) → Option Int
  | 0, _, _, _, _ => none
  | k + 1, t6, t7, h2, h3 =>
    if (decide (t7 < h3.2)) = true then
     if (decide (t7 > 0)) = true then
      if (decide (h2.2.1 = 0)) = true then
       none
      else
       if (decide ((Int.tmod (IntKind.i64.wrap (h3.1 + t7)) h2.2.1) = 0)) = true then
        tapearchiveref09_Read_l0 d k (IntKind.i64.wrap ((IntKind.i64.wrap ((IntKind.i64.wrap (t6 + h2.2.2.2.2.2)) + h2.2.2.2.2.1)) + h2.2.2.2.1)) (IntKind.i64.wrap (t7 + 1)) h2 h3
       else
        tapearchiveref09_Read_l0 d k (IntKind.i64.wrap (t6 + h2.2.2.2.2.2)) (IntKind.i64.wrap (t7 + 1)) h2 h3
     else
      tapearchiveref09_Read_l0 d k (IntKind.i64.wrap (t6 + h2.2.2.2.2.2)) (IntKind.i64.wrap (t7 + 1)) h2 h3
    else
     some t6
def tapearchiveref09_Read (d : Nat) (a0 : Int × Int × Int × Int × Int × Int) (a1 : Int × Int) : Option Int :=
  (tapearchiveref09_Capacity d a0).bind fun r1 =>
  (show Option (((Int × Int × Int × Int × Int × Int) × (Int × Int)) ⊕ Int) from
   (tapearchiveref09_Valid d a0).bind fun r3 =>
   if (!r3) = true then
    some (.inr 0)
   else
    if (decide (a1.1 < 0)) = true then
     some (.inr 0)
    else
     if (decide (a1.1 > r1)) = true then
      some (.inr 0)
     else
      if (decide (a1.2 < 0)) = true then
       some (.inr 0)
      else
       if (decide (a1.2 > r1)) = true then
        some (.inr 0)
       else
        if (decide ((IntKind.i64.wrap (a1.1 + a1.2)) > r1)) = true then
         some (.inr 0)
        else
         some (.inl (a0, a1))).bind fun y4 => match y4 with
  | .inl y4 =>
   (tapearchiveref09_Read_l0 d d 0 0 y4.1 y4.2).bind fun y6 =>
   some y6
  | .inr x => some x
def tapearchiveref11_Read_l0 (d : Nat) : Nat → Int → Int → (Int × ByteArray × Int × Int × Int × Int) → (ByteArray × (Int × Int × Int × Int × Int × Int) × Bool × Bool × (List (Bool × Bool × List Int)) × Int × Int × Int) → (Int × ByteArray × Int × Int × Int × Int) → (ByteArray × (Int × Int × Int × Int × Int × Int) × Bool × Bool × (List (Bool × Bool × List Int)) × Int × Int × Int) → (List (Bool × Bool × List Int)) → Option (Int × Int × (Int × ByteArray × Int × Int × Int × Int) × (ByteArray × (Int × Int × Int × Int × Int × Int) × Bool × Bool × (List (Bool × Bool × List Int)) × Int × Int × Int) × (Int × ByteArray × Int × Int × Int × Int) × (ByteArray × (Int × Int × Int × Int × Int × Int) × Bool × Bool × (List (Bool × Bool × List Int)) × Int × Int × Int) × (List (Bool × Bool × List Int)))
  | 0, _, _, _, _, _, _, _ => none
  | k + 1, t3, t13, h5, h6, h8, h9, h42 =>
    (show Option ((Int × Int × (Int × ByteArray × Int × Int × Int × Int) × (ByteArray × (Int × Int × Int × Int × Int × Int) × Bool × Bool × (List (Bool × Bool × List Int)) × Int × Int × Int) × (Int × ByteArray × Int × Int × Int × Int) × (ByteArray × (Int × Int × Int × Int × Int × Int) × Bool × Bool × (List (Bool × Bool × List Int)) × Int × Int × Int) × (List (Bool × Bool × List Int))) ⊕ (Int × Int × (Int × ByteArray × Int × Int × Int × Int) × (ByteArray × (Int × Int × Int × Int × Int × Int) × Bool × Bool × (List (Bool × Bool × List Int)) × Int × Int × Int) × (Int × ByteArray × Int × Int × Int × Int) × (ByteArray × (Int × Int × Int × Int × Int × Int) × Bool × Bool × (List (Bool × Bool × List Int)) × Int × Int × Int) × (List (Bool × Bool × List Int)))) from
     if (decide ((h42.length : Int) < t3)) = true then
      if (decide ((0 : Int) ≤ (IntKind.i64.wrap (h5.2.2.1 + (h42.length : Int))) ∧ (IntKind.i64.wrap (h5.2.2.1 + (h42.length : Int))) < (h6.2.2.2.2.1.length : Int))) = true then
       if (!(h6.2.2.2.2.1.getD (IntKind.i64.wrap (h5.2.2.1 + (h42.length : Int))).toNat zBlock).2.1) = true then
        some (.inl (t3, t13, h5, h6, h8, h9, h42))
       else
        some (.inr (t3, t13, h5, h6, h8, h9, h42))
      else none
     else
      Option.map Sum.inr (
      some (t3, t13, h5, h6, h8, h9, h42))).bind fun y9 => match y9 with
    | .inl y9 =>
     if (decide ((0 : Int) ≤ (IntKind.i64.wrap (y9.2.2.1.2.2.1 + (y9.2.2.2.2.2.2.length : Int))) ∧ (IntKind.i64.wrap (y9.2.2.1.2.2.1 + (y9.2.2.2.2.2.2.length : Int))) < (y9.2.2.2.1.2.2.2.2.1.length : Int))) = true then
      if (decide ((0 + (y9.2.2.2.1.2.2.2.2.1.getD (IntKind.i64.wrap (y9.2.2.1.2.2.1 + (y9.2.2.2.2.2.2.length : Int))).toNat zBlock).2.2.length) * 1 ≤ 140737488355328)) = true then
       if (decide ((y9.2.2.2.2.2.2.length + ([((y9.2.2.2.1.2.2.2.2.1.getD (IntKind.i64.wrap (y9.2.2.1.2.2.1 + (y9.2.2.2.2.2.2.length : Int))).toNat zBlock).1, (y9.2.2.2.1.2.2.2.2.1.getD (IntKind.i64.wrap (y9.2.2.1.2.2.1 + (y9.2.2.2.2.2.2.length : Int))).toNat zBlock).2.1, ([] ++ (y9.2.2.2.1.2.2.2.2.1.getD (IntKind.i64.wrap (y9.2.2.1.2.2.1 + (y9.2.2.2.2.2.2.length : Int))).toNat zBlock).2.2))] : List (Bool × Bool × List Int)).length) * 32 ≤ 140737488355328)) = true then
        tapearchiveref11_Read_l0 d k y9.1 y9.2.1 y9.2.2.1 y9.2.2.2.1 y9.2.2.2.2.1 y9.2.2.2.2.2.1 (y9.2.2.2.2.2.2 ++ [((y9.2.2.2.1.2.2.2.2.1.getD (IntKind.i64.wrap (y9.2.2.1.2.2.1 + (y9.2.2.2.2.2.2.length : Int))).toNat zBlock).1, (y9.2.2.2.1.2.2.2.2.1.getD (IntKind.i64.wrap (y9.2.2.1.2.2.1 + (y9.2.2.2.2.2.2.length : Int))).toNat zBlock).2.1, ([] ++ (y9.2.2.2.1.2.2.2.2.1.getD (IntKind.i64.wrap (y9.2.2.1.2.2.1 + (y9.2.2.2.2.2.2.length : Int))).toNat zBlock).2.2))])
       else none
      else none
     else none
    | .inr x => some x
def tapearchiveref11_Read (d : Nat) (a0 : Int × Int × Int × Int × Int) (a1 : Int × ByteArray × Int × Int × Int × Int) (a2 : ByteArray × (Int × Int × Int × Int × Int × Int) × Bool × Bool × (List (Bool × Bool × List Int)) × Int × Int × Int) (a3 : Int) : Option ((Int × ByteArray × Int × Int × Int × Int) × (ByteArray × (Int × Int × Int × Int × Int × Int) × Bool × Bool × (List (Bool × Bool × List Int)) × Int × Int × Int) × (List (Bool × Bool × List Int)) × Int × Int) :=
  (tapearchiveref11_first d a0 a1 a2).bind fun r1 =>
  (show Option (Int × Int × (Int × ByteArray × Int × Int × Int × Int) × (ByteArray × (Int × Int × Int × Int × Int × Int) × Bool × Bool × (List (Bool × Bool × List Int)) × Int × Int × Int) × (Int × ByteArray × Int × Int × Int × Int) × (ByteArray × (Int × Int × Int × Int × Int × Int) × Bool × Bool × (List (Bool × Bool × List Int)) × Int × Int × Int)) from
   if (decide (r1 = 0)) = true then
    if (decide (a3 < 1)) = true then
     some (a3, 7, a1, a2, (0, ByteArray.empty, 0, 0, 0, 0), (ByteArray.empty, (0, 0, 0, 0, 0, 0), false, false, [], 0, 0, 0))
    else
     if (decide (a3 > (IntKind.i64.wrap ((a2.2.2.2.2.1.length : Int) - a1.2.2.1)))) = true then
      some (a3, 7, a1, a2, (0, ByteArray.empty, 0, 0, 0, 0), (ByteArray.empty, (0, 0, 0, 0, 0, 0), false, false, [], 0, 0, 0))
     else
      some (a3, r1, a1, a2, (0, ByteArray.empty, 0, 0, 0, 0), (ByteArray.empty, (0, 0, 0, 0, 0, 0), false, false, [], 0, 0, 0))
   else
    some (a3, r1, a1, a2, (0, ByteArray.empty, 0, 0, 0, 0), (ByteArray.empty, (0, 0, 0, 0, 0, 0), false, false, [], 0, 0, 0))).bind fun y3 =>
  if (!decide (y3.2.1 = 0)) = true then
   some ((0, ByteArray.empty, 0, 0, 0, 0), (ByteArray.empty, (0, 0, 0, 0, 0, 0), false, false, [], 0, 0, 0), [], 0, y3.2.1)
  else
   (tapearchiveref11_Read_l0 d d y3.1 y3.2.1 y3.2.2.1 y3.2.2.2.1 y3.2.2.2.2.1 y3.2.2.2.2.2 []).bind fun y10 =>
   (show Option (Int × (Int × ByteArray × Int × Int × Int × Int) × (ByteArray × (Int × Int × Int × Int × Int × Int) × Bool × Bool × (List (Bool × Bool × List Int)) × Int × Int × Int) × (Int × ByteArray × Int × Int × Int × Int) × (ByteArray × (Int × Int × Int × Int × Int × Int) × Bool × Bool × (List (Bool × Bool × List Int)) × Int × Int × Int) × (List (Bool × Bool × List Int))) from
    if (decide ((y10.2.2.2.2.2.2.length : Int) < y10.1)) = true then
     some (15, y10.2.2.1, y10.2.2.2.1, y10.2.2.2.2.1, y10.2.2.2.2.2.1, y10.2.2.2.2.2.2)
    else
     some (y10.2.1, y10.2.2.1, y10.2.2.2.1, y10.2.2.2.2.1, y10.2.2.2.2.2.1, y10.2.2.2.2.2.2)).bind fun y12 =>
   (tapearchiveref09_Read d y12.2.2.1.2.1 (y12.2.1.2.2.1, (y12.2.2.2.2.2.length : Int))).bind fun r13 =>
   (tapearchiveref11_move d y12.2.1 y12.2.2.1 (IntKind.i64.wrap (y12.2.1.2.2.1 + (y12.2.2.2.2.2.length : Int)))).bind fun r14 =>
   some (r14.1, r14.2, y12.2.2.2.2.2, r13, y12.1)
def tapearchiveref11_Worn (d : Nat) (a0 : Int × Int × Int × Int × Int) (a1 : ByteArray × (Int × Int × Int × Int × Int × Int) × Bool × Bool × (List (Bool × Bool × List Int)) × Int × Int × Int) : Option Bool :=
  if (decide (a0.2.2.2.2 > 0)) = true then
   some (decide (a1.2.2.2.2.2.2.2 ≥ a0.2.2.2.2))
  else
   some false
def tapearchiveref10_Copied_l0 (d : Nat) : Nat → (List (Bool × Bool × List Int)) → Int → (List (Bool × Bool × List Int)) → Option ((List (Bool × Bool × List Int)))
  | 0, _, _, _ => none
  | k + 1, t0, t4, h2000001 =>
    if (decide (t4 < (t0.length : Int))) = true then
     if (decide ((0 : Int) ≤ t4 ∧ t4 < (t0.length : Int))) = true then
      if (decide ((0 : Int) ≤ t4 ∧ t4 < (t0.length : Int))) = true then
       if (decide ((0 + (t0.getD t4.toNat zBlock).2.2.length) * 1 ≤ 140737488355328)) = true then
        if (decide ((h2000001.length + ([((t0.getD t4.toNat zBlock).1, (t0.getD t4.toNat zBlock).2.1, ([] ++ (t0.getD t4.toNat zBlock).2.2))] : List (Bool × Bool × List Int)).length) * 32 ≤ 140737488355328)) = true then
         tapearchiveref10_Copied_l0 d k t0 (IntKind.i64.wrap (t4 + 1)) (h2000001 ++ [((t0.getD t4.toNat zBlock).1, (t0.getD t4.toNat zBlock).2.1, ([] ++ (t0.getD t4.toNat zBlock).2.2))])
        else none
       else none
      else none
     else none
    else
     some h2000001
def tapearchiveref10_Copied (d : Nat) (a0 : List (Bool × Bool × List Int)) : Option ((List (Bool × Bool × List Int))) :=
  (tapearchiveref10_Copied_l0 d d a0 0 []).bind fun y3 =>
  some y3
def tapearchiveref10_Write_l0 (d : Nat) : Nat → Int → (List (Bool × Bool × List Int)) → Int → (ByteArray × (Int × Int × Int × Int × Int × Int) × Bool × Bool × (List (Bool × Bool × List Int)) × Int × Int × Int) → (ByteArray × (Int × Int × Int × Int × Int × Int) × Bool × Bool × (List (Bool × Bool × List Int)) × Int × Int × Int) → Option ((Int × (List (Bool × Bool × List Int)) × (ByteArray × (Int × Int × Int × Int × Int × Int) × Bool × Bool × (List (Bool × Bool × List Int)) × Int × Int × Int) × (ByteArray × (Int × Int × Int × Int × Int × Int) × Bool × Bool × (List (Bool × Bool × List Int)) × Int × Int × Int)) ⊕ ((ByteArray × (Int × Int × Int × Int × Int × Int) × Bool × Bool × (List (Bool × Bool × List Int)) × Int × Int × Int) × Int))
  | 0, _, _, _, _, _ => none
  | k + 1, t1, t2, t8, h3, h6 =>
    if (decide (t8 < (t2.length : Int))) = true then
     if (decide ((0 : Int) ≤ t8 ∧ t8 < (t2.length : Int))) = true then
      (tapearchiveref10_block d (t2.getD t8.toNat zBlock)).bind fun r3 =>
      if (!r3) = true then
       some (.inr ((ByteArray.empty, (0, 0, 0, 0, 0, 0), false, false, [], 0, 0, 0), 8))
      else
       if (decide ((0 : Int) ≤ t8 ∧ t8 < (t2.length : Int))) = true then
        if (t2.getD t8.toNat zBlock).2.1 = true then
         some (.inr ((ByteArray.empty, (0, 0, 0, 0, 0, 0), false, false, [], 0, 0, 0), 8))
        else
         tapearchiveref10_Write_l0 d k t1 t2 (IntKind.i64.wrap (t8 + 1)) h3 h6
       else none
     else none
    else
     some (.inl (t1, t2, h3, h6))
def tapearchiveref10_Write (d : Nat) (a0 : ByteArray × (Int × Int × Int × Int × Int × Int) × Bool × Bool × (List (Bool × Bool × List Int)) × Int × Int × Int) (a1 : Int) (a2 : List (Bool × Bool × List Int)) : Option ((ByteArray × (Int × Int × Int × Int × Int × Int) × Bool × Bool × (List (Bool × Bool × List Int)) × Int × Int × Int) × Int) :=
  (tapearchiveref10_Valid d a0).bind fun r1 =>
  if (!r1) = true then
   some ((ByteArray.empty, (0, 0, 0, 0, 0, 0), false, false, [], 0, 0, 0), 8)
  else
   (tapearchiveref10_Write_l0 d d a1 a2 0 a0 (ByteArray.empty, (0, 0, 0, 0, 0, 0), false, false, [], 0, 0, 0)).bind fun y4 => match y4 with
   | .inl y4 =>
    if y4.2.2.1.2.2.2.1 = true then
     some ((ByteArray.empty, (0, 0, 0, 0, 0, 0), false, false, [], 0, 0, 0), 17)
    else
     (show Option ((Int × (List (Bool × Bool × List Int)) × (ByteArray × (Int × Int × Int × Int × Int × Int) × Bool × Bool × (List (Bool × Bool × List Int)) × Int × Int × Int) × (ByteArray × (Int × Int × Int × Int × Int × Int) × Bool × Bool × (List (Bool × Bool × List Int)) × Int × Int × Int)) ⊕ ((ByteArray × (Int × Int × Int × Int × Int × Int) × Bool × Bool × (List (Bool × Bool × List Int)) × Int × Int × Int) × Int)) from
      if (decide (y4.1 < 0)) = true then
       some (.inr ((ByteArray.empty, (0, 0, 0, 0, 0, 0), false, false, [], 0, 0, 0), 7))
      else
       if (decide (y4.1 > (y4.2.2.1.2.2.2.2.1.length : Int))) = true then
        some (.inr ((ByteArray.empty, (0, 0, 0, 0, 0, 0), false, false, [], 0, 0, 0), 7))
       else
        some (.inl (y4.1, y4.2.1, y4.2.2.1, y4.2.2.2))).bind fun y7 => match y7 with
     | .inl y7 =>
      (show Option ((Int × (List (Bool × Bool × List Int)) × (ByteArray × (Int × Int × Int × Int × Int × Int) × Bool × Bool × (List (Bool × Bool × List Int)) × Int × Int × Int) × (ByteArray × (Int × Int × Int × Int × Int × Int) × Bool × Bool × (List (Bool × Bool × List Int)) × Int × Int × Int)) ⊕ ((ByteArray × (Int × Int × Int × Int × Int × Int) × Bool × Bool × (List (Bool × Bool × List Int)) × Int × Int × Int) × Int)) from
       if y7.2.2.1.2.2.1 = true then
        if (decide (y7.1 < (y7.2.2.1.2.2.2.2.1.length : Int))) = true then
         some (.inr ((ByteArray.empty, (0, 0, 0, 0, 0, 0), false, false, [], 0, 0, 0), 17))
        else
         some (.inl (y7.1, y7.2.1, y7.2.2.1, y7.2.2.2))
       else
        some (.inl (y7.1, y7.2.1, y7.2.2.1, y7.2.2.2))).bind fun y9 => match y9 with
      | .inl y9 =>
       (tapearchiveref09_Capacity d y9.2.2.1.2.1).bind fun r10 =>
       if (decide ((y9.2.1.length : Int) > (IntKind.i64.wrap (r10 - y9.1)))) = true then
        some ((ByteArray.empty, (0, 0, 0, 0, 0, 0), false, false, [], 0, 0, 0), 12)
       else
        (tapearchiveref10_Copied d y9.2.2.1.2.2.2.2.1).bind fun r11 =>
        (show Option ((ByteArray × (Int × Int × Int × Int × Int × Int) × Bool × Bool × (List (Bool × Bool × List Int)) × Int × Int × Int) × (ByteArray × (Int × Int × Int × Int × Int × Int) × Bool × Bool × (List (Bool × Bool × List Int)) × Int × Int × Int) × (List (Bool × Bool × List Int))) from
         if (decide ((y9.2.1.length : Int) > 0)) = true then
          if (decide (0 ≤ (0 : Int) ∧ (0 : Int) ≤ y9.1 ∧ y9.1 ≤ (r11.length : Int))) = true then
           (tapearchiveref10_Copied d y9.2.1).bind fun r13 =>
           if (decide (((y9.1.toNat - 0) + r13.length) * 32 ≤ 140737488355328)) = true then
            some (y9.2.2.1, y9.2.2.2, ((r11).take (y9.1.toNat - 0) ++ r13))
           else none
          else none
         else
          some (y9.2.2.1, y9.2.2.2, r11)).bind fun y14 =>
        some ((y14.1.1, y14.1.2.1, y14.1.2.2.1, y14.1.2.2.2.1, y14.2.2, y14.1.2.2.2.2.2), 0)
      | .inr x => some x
     | .inr x => some x
   | .inr r5 =>
    some r5
def tapearchiveref11_Write (d : Nat) (a0 : Int × Int × Int × Int × Int) (a1 : Int × ByteArray × Int × Int × Int × Int) (a2 : ByteArray × (Int × Int × Int × Int × Int × Int) × Bool × Bool × (List (Bool × Bool × List Int)) × Int × Int × Int) (a3 : List (Bool × Bool × List Int)) : Option ((Int × ByteArray × Int × Int × Int × Int) × (ByteArray × (Int × Int × Int × Int × Int × Int) × Bool × Bool × (List (Bool × Bool × List Int)) × Int × Int × Int) × Int × Int) :=
  (tapearchiveref11_first d a0 a1 a2).bind fun r1 =>
  (show Option ((List (Bool × Bool × List Int)) × Int × (Int × ByteArray × Int × Int × Int × Int) × (ByteArray × (Int × Int × Int × Int × Int × Int) × Bool × Bool × (List (Bool × Bool × List Int)) × Int × Int × Int) × (Int × ByteArray × Int × Int × Int × Int) × (ByteArray × (Int × Int × Int × Int × Int × Int) × Bool × Bool × (List (Bool × Bool × List Int)) × Int × Int × Int)) from
   if (decide (r1 = 0)) = true then
    (tapearchiveref11_Worn d a0 a2).bind fun r3 =>
    if r3 = true then
     some (a3, 17, a1, a2, (0, ByteArray.empty, 0, 0, 0, 0), (ByteArray.empty, (0, 0, 0, 0, 0, 0), false, false, [], 0, 0, 0))
    else
     some (a3, r1, a1, a2, (0, ByteArray.empty, 0, 0, 0, 0), (ByteArray.empty, (0, 0, 0, 0, 0, 0), false, false, [], 0, 0, 0))
   else
    some (a3, r1, a1, a2, (0, ByteArray.empty, 0, 0, 0, 0), (ByteArray.empty, (0, 0, 0, 0, 0, 0), false, false, [], 0, 0, 0))).bind fun y4 =>
  (show Option ((List (Bool × Bool × List Int)) × Int × (Int × ByteArray × Int × Int × Int × Int) × (ByteArray × (Int × Int × Int × Int × Int × Int) × Bool × Bool × (List (Bool × Bool × List Int)) × Int × Int × Int) × (Int × ByteArray × Int × Int × Int × Int) × (ByteArray × (Int × Int × Int × Int × Int × Int) × Bool × Bool × (List (Bool × Bool × List Int)) × Int × Int × Int)) from
   if (decide (y4.2.1 = 0)) = true then
    if (decide ((y4.1.length : Int) = 0)) = true then
     some (y4.1, 8, y4.2.2.1, y4.2.2.2.1, y4.2.2.2.2.1, y4.2.2.2.2.2)
    else
     some (y4.1, y4.2.1, y4.2.2.1, y4.2.2.2.1, y4.2.2.2.2.1, y4.2.2.2.2.2)
   else
    some (y4.1, y4.2.1, y4.2.2.1, y4.2.2.2.1, y4.2.2.2.2.1, y4.2.2.2.2.2)).bind fun y6 =>
  if (!decide (y6.2.1 = 0)) = true then
   some ((0, ByteArray.empty, 0, 0, 0, 0), (ByteArray.empty, (0, 0, 0, 0, 0, 0), false, false, [], 0, 0, 0), 0, y6.2.1)
  else
   (tapearchiveref10_Write d y6.2.2.2.1 y6.2.2.1.2.2.1 y6.1).bind fun r7 =>
   if (!decide (r7.2 = 0)) = true then
    some ((0, ByteArray.empty, 0, 0, 0, 0), (ByteArray.empty, (0, 0, 0, 0, 0, 0), false, false, [], 0, 0, 0), 0, r7.2)
   else
    (tapearchiveref09_Read d y6.2.2.2.1.2.1 (y6.2.2.1.2.2.1, (y6.1.length : Int))).bind fun r8 =>
    (tapearchiveref11_move d y6.2.2.1 r7.1 (IntKind.i64.wrap (y6.2.2.1.2.2.1 + (y6.1.length : Int)))).bind fun r9 =>
    some (r9.1, r9.2, r8, 0)
def tapearchiveref11_Clean (d : Nat) (a0 : Int × Int × Int × Int × Int) (a1 : Int × ByteArray × Int × Int × Int × Int) : Option ((Int × ByteArray × Int × Int × Int × Int) × Int × Int) :=
  (show Option (((Int × Int × Int × Int × Int) × (Int × ByteArray × Int × Int × Int × Int) × (Int × ByteArray × Int × Int × Int × Int)) ⊕ ((Int × ByteArray × Int × Int × Int × Int) × Int × Int)) from
   (tapearchiveref11_model d a0).bind fun r2 =>
   if (!r2) = true then
    some (.inr ((0, ByteArray.empty, 0, 0, 0, 0), 0, 8))
   else
    (tapearchiveref11_drive d a1).bind fun r3 =>
    if (!r3) = true then
     some (.inr ((0, ByteArray.empty, 0, 0, 0, 0), 0, 8))
    else
     if (decide (a1.1 = 2)) = true then
      some (.inr ((0, ByteArray.empty, 0, 0, 0, 0), 0, 16))
     else
      if (decide (a1.1 = 1)) = true then
       some (.inr ((0, ByteArray.empty, 0, 0, 0, 0), 0, 14))
      else
       some (.inl (a0, a1, (0, ByteArray.empty, 0, 0, 0, 0)))).bind fun y4 => match y4 with
  | .inl y4 =>
   some ((y4.2.1.1, y4.2.1.2.1, y4.2.1.2.2.1, y4.2.1.2.2.2.1, y4.2.1.2.2.2.2.1, 0), y4.1.2.2.1, 0)
  | .inr x => some x
def tapearchivelaw11_document (d : Nat) (a0 : Int × Int × Int × Int × Int) (a1 : Int × ByteArray × Int × Int × Int × Int) (a2 : ByteArray × (Int × Int × Int × Int × Int × Int) × Bool × Bool × (List (Bool × Bool × List Int)) × Int × Int × Int) (a3 : Int × Int × Int × List (Bool × Bool × List Int)) : Option (((Int × ByteArray × Int × Int × Int × Int) × (ByteArray × (Int × Int × Int × Int × Int × Int) × Bool × Bool × (List (Bool × Bool × List Int)) × Int × Int × Int) × (List (Bool × Bool × List Int)) × Int × Int)) :=
  if (decide (a3.1 = 0)) = true then
   (tapearchiveref11_Load d a0 a1 a2).bind fun r1 =>
   some (r1.1, r1.2.1, [], r1.2.2)
  else
   if (decide (a3.1 = 1)) = true then
    (tapearchiveref11_Unload d a0 a1 a2).bind fun r2 =>
    some (r2.1, r2.2.1, [], r2.2.2)
   else
    if (decide (a3.1 = 2)) = true then
     (tapearchiveref11_Seek d a0 a1 a2 a3.2.2.1).bind fun r3 =>
     some (r3.1, r3.2.1, [], r3.2.2)
    else
     if (decide (a3.1 = 3)) = true then
      (tapearchiveref11_Read d a0 a1 a2 a3.2.2.1).bind fun r4 =>
      some r4
     else
      if (decide (a3.1 = 4)) = true then
       (tapearchiveref11_Write d a0 a1 a2 a3.2.2.2).bind fun r5 =>
       some (r5.1, r5.2.1, [], r5.2.2)
      else
       (tapearchiveref11_Clean d a0 a1).bind fun r6 =>
       some (r6.1, a2, [], r6.2)
def tapearchiveref11_Same (d : Nat) (a0 : ByteArray × (Int × Int × Int × Int × Int × Int) × Bool × Bool × (List (Bool × Bool × List Int)) × Int × Int × Int) (a1 : ByteArray × (Int × Int × Int × Int × Int × Int) × Bool × Bool × (List (Bool × Bool × List Int)) × Int × Int × Int) : Option Bool :=
  if (decide (a0.1 = a1.1)) = true then
   if ((decide (a0.2.1.1 = a1.2.1.1)) && ((decide (a0.2.1.2.1 = a1.2.1.2.1)) && ((decide (a0.2.1.2.2.1 = a1.2.1.2.2.1)) && ((decide (a0.2.1.2.2.2.1 = a1.2.1.2.2.2.1)) && ((decide (a0.2.1.2.2.2.2.1 = a1.2.1.2.2.2.2.1)) && (decide (a0.2.1.2.2.2.2.2 = a1.2.1.2.2.2.2.2))))))) = true then
    if (decide (a0.2.2.1 = a1.2.2.1)) = true then
     if (decide (a0.2.2.2.1 = a1.2.2.2.1)) = true then
      if (decide (a0.2.2.2.2.2.1 = a1.2.2.2.2.2.1)) = true then
       if (decide (a0.2.2.2.2.2.2.1 = a1.2.2.2.2.2.2.1)) = true then
        if (decide (a0.2.2.2.2.2.2.2 = a1.2.2.2.2.2.2.2)) = true then
         (tapearchiveref11_SameBlocks d a0.2.2.2.2.1 a1.2.2.2.2.1).bind fun r1 =>
         some r1
        else
         some false
       else
        some false
      else
       some false
     else
      some false
    else
     some false
   else
    some false
  else
   some false
def tapearchivelaw11_DriveSteps (d : Nat) (a0 : Int × Int × Int × Int × Int) (a1 : Int × ByteArray × Int × Int × Int × Int) (a2 : ByteArray × (Int × Int × Int × Int × Int × Int) × Bool × Bool × (List (Bool × Bool × List Int)) × Int × Int × Int) (a3 : Int × Int × Int × List (Bool × Bool × List Int)) : Option Bool :=
  (tapearchivelaw11_lives d).bind fun r1 =>
  if (!r1) = true then
   some false
  else
   (tapearchivelaw11_few d [a2] [a3] 1).bind fun r2 =>
   if (!r2) = true then
    some true
   else
    (tapearchiveref11_Copied d a2).bind fun r3 =>
    (tapearchivelaw11_program d a0 a1 r3 a3).bind fun r4 =>
    (tapearchiveref11_Copied d a2).bind fun r5 =>
    (tapearchivelaw11_document d a0 a1 r5 a3).bind fun r6 =>
    if (decide (r4.2.2.2.2 = r6.2.2.2.2)) = true then
     if ((decide (r4.1.1 = r6.1.1)) && ((decide (r4.1.2.1 = r6.1.2.1)) && ((decide (r4.1.2.2.1 = r6.1.2.2.1)) && ((decide (r4.1.2.2.2.1 = r6.1.2.2.2.1)) && ((decide (r4.1.2.2.2.2.1 = r6.1.2.2.2.2.1)) && (decide (r4.1.2.2.2.2.2 = r6.1.2.2.2.2.2))))))) = true then
      (tapearchiveref11_Same d r4.2.1 r6.2.1).bind fun r7 =>
      if r7 = true then
       if (decide (r4.2.2.2.1 = r6.2.2.2.1)) = true then
        (tapearchiveref11_SameBlocks d r4.2.2.1 r6.2.2.1).bind fun r8 =>
        if r8 = true then
         (drive_Due d a0 a1).bind fun r9 =>
         (tapearchiveref11_Due d a0 a1).bind fun r10 =>
         if (decide (r9 = r10)) = true then
          (drive_Worn d a0 a2).bind fun r11 =>
          (tapearchiveref11_Worn d a0 a2).bind fun r12 =>
          some (decide (r11 = r12))
         else
          some false
        else
         some false
       else
        some false
      else
       some false
     else
      some false
    else
     some false
def tapearchivelaw11_DriveRuns_l0 (d : Nat) : Nat → (List (ByteArray × (Int × Int × Int × Int × Int × Int) × Bool × Bool × (List (Bool × Bool × List Int)) × Int × Int × Int)) → (List (Int × Int × Int × List (Bool × Bool × List Int))) → Int → (Int × Int × Int × Int × Int) → (List (ByteArray × (Int × Int × Int × Int × Int × Int) × Bool × Bool × (List (Bool × Bool × List Int)) × Int × Int × Int)) → Option ((List (Int × Int × Int × List (Bool × Bool × List Int))) × (Int × Int × Int × Int × Int) × (List (ByteArray × (Int × Int × Int × Int × Int × Int) × Bool × Bool × (List (Bool × Bool × List Int)) × Int × Int × Int)))
  | 0, _, _, _, _, _ => none
  | k + 1, t1, t2, t8, h3, h20 =>
    if (decide (t8 < (t1.length : Int))) = true then
     if (decide ((0 : Int) ≤ t8 ∧ t8 < (t1.length : Int))) = true then
      (tapearchiveref11_Copied d (t1.getD t8.toNat zCartridge)).bind fun r6 =>
      if (decide ((h20.length + ([r6] : List (ByteArray × (Int × Int × Int × Int × Int × Int) × Bool × Bool × (List (Bool × Bool × List Int)) × Int × Int × Int)).length) * 120 ≤ 140737488355328)) = true then
       tapearchivelaw11_DriveRuns_l0 d k t1 t2 (IntKind.i64.wrap (t8 + 1)) h3 (h20 ++ [r6])
      else none
     else none
    else
     some (t2, h3, h20)
def tapearchivelaw11_DriveRuns_l2 (d : Nat) : Nat → (List (Int × Int × Int × List (Bool × Bool × List Int))) → Int → (Int × Int × Int × Int × Int) → (Int × ByteArray × Int × Int × Int × Int) → (List (ByteArray × (Int × Int × Int × Int × Int × Int) × Bool × Bool × (List (Bool × Bool × List Int)) × Int × Int × Int)) → Option (Unit ⊕ Bool)
  | 0, _, _, _, _, _ => none
  | k + 1, t2, t10, h3, h9, h20 =>
    if (decide (t10 < (t2.length : Int))) = true then
     if (decide ((0 : Int) ≤ t10 ∧ t10 < (t2.length : Int))) = true then
      (show Option (((List (Int × Int × Int × List (Bool × Bool × List Int))) × Int × Int × (Int × Int × Int × Int × Int) × (Int × ByteArray × Int × Int × Int × Int) × (List (ByteArray × (Int × Int × Int × Int × Int × Int) × Bool × Bool × (List (Bool × Bool × List Int)) × Int × Int × Int))) ⊕ (Unit ⊕ Bool)) from
       if (decide ((t2.getD t10.toNat ztapearchivelaw11_Step).2.1 < 0)) = true then
        some (.inr (.inr true))
       else
        if (decide ((t2.getD t10.toNat ztapearchivelaw11_Step).2.1 ≥ (h20.length : Int))) = true then
         some (.inr (.inr true))
        else
         some (.inl (t2, t10, (t2.getD t10.toNat ztapearchivelaw11_Step).2.1, h3, h9, h20))).bind fun y10 => match y10 with
      | .inl y10 =>
       if (decide ((0 : Int) ≤ y10.2.2.1 ∧ y10.2.2.1 < (y10.2.2.2.2.2.length : Int))) = true then
        (tapearchiveref11_Copied d (y10.2.2.2.2.2.getD y10.2.2.1.toNat zCartridge)).bind fun r11 =>
        if (decide ((0 : Int) ≤ y10.2.1 ∧ y10.2.1 < (y10.1.length : Int))) = true then
         (tapearchivelaw11_program d y10.2.2.2.1 y10.2.2.2.2.1 r11 (y10.1.getD y10.2.1.toNat ztapearchivelaw11_Step)).bind fun r12 =>
         if (decide ((0 : Int) ≤ y10.2.2.1 ∧ y10.2.2.1 < (y10.2.2.2.2.2.length : Int))) = true then
          (tapearchiveref11_Copied d (y10.2.2.2.2.2.getD y10.2.2.1.toNat zCartridge)).bind fun r13 =>
          if (decide ((0 : Int) ≤ y10.2.1 ∧ y10.2.1 < (y10.1.length : Int))) = true then
           (tapearchivelaw11_document d y10.2.2.2.1 y10.2.2.2.2.1 r13 (y10.1.getD y10.2.1.toNat ztapearchivelaw11_Step)).bind fun r14 =>
           (show Option (((List (Int × Int × Int × List (Bool × Bool × List Int))) × Int × Int × (Int × Int × Int × Int × Int) × (Int × ByteArray × Int × Int × Int × Int) × ((Int × ByteArray × Int × Int × Int × Int) × (ByteArray × (Int × Int × Int × Int × Int × Int) × Bool × Bool × (List (Bool × Bool × List Int)) × Int × Int × Int) × (List (Bool × Bool × List Int)) × Int × Int) × (List (ByteArray × (Int × Int × Int × Int × Int × Int) × Bool × Bool × (List (Bool × Bool × List Int)) × Int × Int × Int))) ⊕ (Unit ⊕ Bool)) from
            if (!decide (r12.2.2.2.2 = r14.2.2.2.2)) = true then
             some (.inr (.inr false))
            else
             if (!((decide (r12.1.1 = r14.1.1)) && ((decide (r12.1.2.1 = r14.1.2.1)) && ((decide (r12.1.2.2.1 = r14.1.2.2.1)) && ((decide (r12.1.2.2.2.1 = r14.1.2.2.2.1)) && ((decide (r12.1.2.2.2.2.1 = r14.1.2.2.2.2.1)) && (decide (r12.1.2.2.2.2.2 = r14.1.2.2.2.2.2)))))))) = true then
              some (.inr (.inr false))
             else
              (tapearchiveref11_Same d r12.2.1 r14.2.1).bind fun r16 =>
              if (!r16) = true then
               some (.inr (.inr false))
              else
               if (!decide (r12.2.2.2.1 = r14.2.2.2.1)) = true then
                some (.inr (.inr false))
               else
                (tapearchiveref11_SameBlocks d r12.2.2.1 r14.2.2.1).bind fun r17 =>
                if (!r17) = true then
                 some (.inr (.inr false))
                else
                 some (.inl (y10.1, y10.2.1, y10.2.2.1, y10.2.2.2.1, y10.2.2.2.2.1, r12, y10.2.2.2.2.2))).bind fun y18 => match y18 with
           | .inl y18 =>
            if (decide (y18.2.2.2.2.2.1.2.2.2.2 = 0)) = true then
             if (decide ((0 : Int) ≤ y18.2.2.1 ∧ y18.2.2.1 < (y18.2.2.2.2.2.2.length : Int))) = true then
              tapearchivelaw11_DriveRuns_l2 d k y18.1 (IntKind.i64.wrap (y18.2.1 + 1)) y18.2.2.2.1 y18.2.2.2.2.2.1.1 (y18.2.2.2.2.2.2.set y18.2.2.1.toNat y18.2.2.2.2.2.1.2.1)
             else none
            else
             if (decide (y18.2.2.2.2.2.1.2.2.2.2 = 15)) = true then
              if (decide ((0 : Int) ≤ y18.2.2.1 ∧ y18.2.2.1 < (y18.2.2.2.2.2.2.length : Int))) = true then
               tapearchivelaw11_DriveRuns_l2 d k y18.1 (IntKind.i64.wrap (y18.2.1 + 1)) y18.2.2.2.1 y18.2.2.2.2.2.1.1 (y18.2.2.2.2.2.2.set y18.2.2.1.toNat y18.2.2.2.2.2.1.2.1)
              else none
             else
              tapearchivelaw11_DriveRuns_l2 d k y18.1 (IntKind.i64.wrap (y18.2.1 + 1)) y18.2.2.2.1 y18.2.2.2.2.1 y18.2.2.2.2.2.2
           | .inr x => some x
          else none
         else none
        else none
       else none
      | .inr x => some x
     else none
    else
     some (.inl ())
def tapearchivelaw11_DriveRuns (d : Nat) (a0 : Int × Int × Int × Int × Int) (a1 : List (ByteArray × (Int × Int × Int × Int × Int × Int) × Bool × Bool × (List (Bool × Bool × List Int)) × Int × Int × Int)) (a2 : List (Int × Int × Int × List (Bool × Bool × List Int))) : Option Bool :=
  (tapearchivelaw11_lives d).bind fun r1 =>
  if (!r1) = true then
   some false
  else
   (tapearchivelaw11_few d a1 a2 60).bind fun r2 =>
   if (!r2) = true then
    some true
   else
    (tapearchivelaw11_DriveRuns_l0 d d a1 a2 0 a0 []).bind fun y7 =>
    (tapearchivelaw11_DriveRuns_l2 d d y7.1 0 y7.2.1 (0, ByteArray.empty, 0, 0, 0, 0) y7.2.2).bind fun y19 => match y19 with
    | .inl y19 =>
     some true
    | .inr r20 =>
     some r20
def tapearchivelaw11_cost (d : Nat) (a0 : Int × Int × Int × Int × Int) (a1 : Int × Int × Int × Int × Int × Int) (a2 : Int) (a3 : Int) (a4 : Int × Int × Int × List (Bool × Bool × List Int)) : Option Int :=
  if (decide (a4.1 = 0)) = true then
   some a0.1
  else
   if (decide (a4.1 = 1)) = true then
    (tapearchiveref09_Locate d a1 a2 0).bind fun r1 =>
    some (IntKind.i64.wrap (a0.2.1 + r1))
   else
    if (decide (a4.1 = 2)) = true then
     (tapearchiveref09_Locate d a1 a2 a3).bind fun r2 =>
     some r2
    else
     if (decide (a4.1 = 3)) = true then
      if (decide (a4.1 = 3)) = true then
       (tapearchiveref09_Read d a1 (a2, (IntKind.i64.wrap (a3 - a2)))).bind fun r3 =>
       some r3
      else
       some a0.2.2.1
     else
      if (decide (a4.1 = 4)) = true then
       (tapearchiveref09_Read d a1 (a2, (IntKind.i64.wrap (a3 - a2)))).bind fun r4 =>
       some r4
      else
       some a0.2.2.1
def tapearchivelaw11_DriveCosts_l0 (d : Nat) : Nat → (List (ByteArray × (Int × Int × Int × Int × Int × Int) × Bool × Bool × (List (Bool × Bool × List Int)) × Int × Int × Int)) → (List (Int × Int × Int × List (Bool × Bool × List Int))) → Int → Int → (Int × Int × Int × Int × Int) → (List (ByteArray × (Int × Int × Int × Int × Int × Int) × Bool × Bool × (List (Bool × Bool × List Int)) × Int × Int × Int)) → Option (((List (Int × Int × Int × List (Bool × Bool × List Int))) × Int × (Int × Int × Int × Int × Int) × (List (ByteArray × (Int × Int × Int × Int × Int × Int) × Bool × Bool × (List (Bool × Bool × List Int)) × Int × Int × Int))) ⊕ Bool)
  | 0, _, _, _, _, _, _ => none
  | k + 1, t1, t2, t8, t9, h3, h22 =>
    if (decide (t9 < (t1.length : Int))) = true then
     (show Option (((List (ByteArray × (Int × Int × Int × Int × Int × Int) × Bool × Bool × (List (Bool × Bool × List Int)) × Int × Int × Int)) × (List (Int × Int × Int × List (Bool × Bool × List Int))) × Int × Int × (Int × Int × Int × Int × Int) × (List (ByteArray × (Int × Int × Int × Int × Int × Int) × Bool × Bool × (List (Bool × Bool × List Int)) × Int × Int × Int))) ⊕ (((List (Int × Int × Int × List (Bool × Bool × List Int))) × Int × (Int × Int × Int × Int × Int) × (List (ByteArray × (Int × Int × Int × Int × Int × Int) × Bool × Bool × (List (Bool × Bool × List Int)) × Int × Int × Int))) ⊕ Bool)) from
      if (decide ((0 : Int) ≤ t9 ∧ t9 < (t1.length : Int))) = true then
       if (decide ((t1.getD t9.toNat zCartridge).2.2.2.2.2.2.2 > 140737488355328)) = true then
        some (.inr (.inr true))
       else
        if (decide ((0 : Int) ≤ t9 ∧ t9 < (t1.length : Int))) = true then
         if (decide ((t1.getD t9.toNat zCartridge).2.2.2.2.2.2.2 < 0)) = true then
          some (.inr (.inr true))
         else
          some (.inl (t1, t2, t8, t9, h3, h22))
        else none
      else none).bind fun y9 => match y9 with
     | .inl y9 =>
      if (decide ((0 : Int) ≤ y9.2.2.2.1 ∧ y9.2.2.2.1 < (y9.1.length : Int))) = true then
       (tapearchiveref11_Copied d (y9.1.getD y9.2.2.2.1.toNat zCartridge)).bind fun r10 =>
       if (decide ((y9.2.2.2.2.2.length + ([r10] : List (ByteArray × (Int × Int × Int × Int × Int × Int) × Bool × Bool × (List (Bool × Bool × List Int)) × Int × Int × Int)).length) * 120 ≤ 140737488355328)) = true then
        if (decide ((0 : Int) ≤ y9.2.2.2.1 ∧ y9.2.2.2.1 < (y9.1.length : Int))) = true then
         tapearchivelaw11_DriveCosts_l0 d k y9.1 y9.2.1 (IntKind.i64.wrap (y9.2.2.1 + (y9.1.getD y9.2.2.2.1.toNat zCartridge).2.2.2.2.2.2.2)) (IntKind.i64.wrap (y9.2.2.2.1 + 1)) y9.2.2.2.2.1 (y9.2.2.2.2.2 ++ [r10])
        else none
       else none
      else none
     | .inr x => some x
    else
     some (.inl (t2, t8, h3, h22))
def tapearchivelaw11_DriveCosts_l2 (d : Nat) : Nat → (List (Int × Int × Int × List (Bool × Bool × List Int))) → Int → Int → (Int × Int × Int × Int × Int) → (Int × ByteArray × Int × Int × Int × Int) → (List (ByteArray × (Int × Int × Int × Int × Int × Int) × Bool × Bool × (List (Bool × Bool × List Int)) × Int × Int × Int)) → Option ((Int × (Int × ByteArray × Int × Int × Int × Int) × (List (ByteArray × (Int × Int × Int × Int × Int × Int) × Bool × Bool × (List (Bool × Bool × List Int)) × Int × Int × Int))) ⊕ Bool)
  | 0, _, _, _, _, _, _ => none
  | k + 1, t2, t8, t11, h3, h10, h22 =>
    if (decide (t11 < (t2.length : Int))) = true then
     if (decide ((0 : Int) ≤ t11 ∧ t11 < (t2.length : Int))) = true then
      (show Option (((List (Int × Int × Int × List (Bool × Bool × List Int))) × Int × Int × (Int × Int × Int × Int × Int) × (Int × ByteArray × Int × Int × Int × Int) × (Int × Int × Int × List (Bool × Bool × List Int)) × (List (ByteArray × (Int × Int × Int × Int × Int × Int) × Bool × Bool × (List (Bool × Bool × List Int)) × Int × Int × Int))) ⊕ ((Int × (Int × ByteArray × Int × Int × Int × Int) × (List (ByteArray × (Int × Int × Int × Int × Int × Int) × Bool × Bool × (List (Bool × Bool × List Int)) × Int × Int × Int))) ⊕ Bool)) from
       if (decide ((t2.getD t11.toNat ztapearchivelaw11_Step).2.1 < 0)) = true then
        some (.inr (.inr true))
       else
        if (decide ((t2.getD t11.toNat ztapearchivelaw11_Step).2.1 ≥ (h22.length : Int))) = true then
         some (.inr (.inr true))
        else
         some (.inl (t2, t8, t11, h3, h10, (t2.getD t11.toNat ztapearchivelaw11_Step), h22))).bind fun y15 => match y15 with
      | .inl y15 =>
       if (decide ((0 : Int) ≤ y15.2.2.2.2.2.1.2.1 ∧ y15.2.2.2.2.2.1.2.1 < (y15.2.2.2.2.2.2.length : Int))) = true then
        (tapearchiveref11_Copied d (y15.2.2.2.2.2.2.getD y15.2.2.2.2.2.1.2.1.toNat zCartridge)).bind fun r16 =>
        (tapearchivelaw11_program d y15.2.2.2.1 y15.2.2.2.2.1 r16 y15.2.2.2.2.2.1).bind fun r17 =>
        (show Option (((List (Int × Int × Int × List (Bool × Bool × List Int))) × Int × Int × (Int × Int × Int × Int × Int) × (Int × ByteArray × Int × Int × Int × Int) × (Int × Int × Int × List (Bool × Bool × List Int)) × ((Int × ByteArray × Int × Int × Int × Int) × (ByteArray × (Int × Int × Int × Int × Int × Int) × Bool × Bool × (List (Bool × Bool × List Int)) × Int × Int × Int) × (List (Bool × Bool × List Int)) × Int × Int) × (List (ByteArray × (Int × Int × Int × Int × Int × Int) × Bool × Bool × (List (Bool × Bool × List Int)) × Int × Int × Int))) ⊕ ((Int × (Int × ByteArray × Int × Int × Int × Int) × (List (ByteArray × (Int × Int × Int × Int × Int × Int) × Bool × Bool × (List (Bool × Bool × List Int)) × Int × Int × Int))) ⊕ Bool)) from
         if (!decide (r17.2.2.2.2 = 0)) = true then
          if (!decide (r17.2.2.2.2 = 15)) = true then
           if (!((decide (r17.1.1 = 0)) && ((decide (r17.1.2.1 = ByteArray.empty)) && ((decide (r17.1.2.2.1 = 0)) && ((decide (r17.1.2.2.2.1 = 0)) && ((decide (r17.1.2.2.2.2.1 = 0)) && (decide (r17.1.2.2.2.2.2 = 0)))))))) = true then
            if (!decide (y15.2.2.2.2.2.1.1 = 5)) = true then
             some (.inr (.inr false))
            else
             if (!decide (r17.2.2.2.1 = 0)) = true then
              some (.inr (.inr false))
             else
              Option.map Sum.inr (
              tapearchivelaw11_DriveCosts_l2 d k y15.1 y15.2.1 (IntKind.i64.wrap (y15.2.2.1 + 1)) y15.2.2.2.1 y15.2.2.2.2.1 y15.2.2.2.2.2.2)
           else
            if (!decide (r17.2.2.2.1 = 0)) = true then
             some (.inr (.inr false))
            else
             Option.map Sum.inr (
             tapearchivelaw11_DriveCosts_l2 d k y15.1 y15.2.1 (IntKind.i64.wrap (y15.2.2.1 + 1)) y15.2.2.2.1 y15.2.2.2.2.1 y15.2.2.2.2.2.2)
          else
           some (.inl (y15.1, y15.2.1, y15.2.2.1, y15.2.2.2.1, y15.2.2.2.2.1, y15.2.2.2.2.2.1, r17, y15.2.2.2.2.2.2))
         else
          some (.inl (y15.1, y15.2.1, y15.2.2.1, y15.2.2.2.1, y15.2.2.2.2.1, y15.2.2.2.2.2.1, r17, y15.2.2.2.2.2.2))).bind fun y19 => match y19 with
        | .inl y19 =>
         (show Option (((List (Int × Int × Int × List (Bool × Bool × List Int))) × Int × Int × (Int × Int × Int × Int × Int) × (Int × ByteArray × Int × Int × Int × Int) × (Int × Int × Int × List (Bool × Bool × List Int)) × ((Int × ByteArray × Int × Int × Int × Int) × (ByteArray × (Int × Int × Int × Int × Int × Int) × Bool × Bool × (List (Bool × Bool × List Int)) × Int × Int × Int) × (List (Bool × Bool × List Int)) × Int × Int) × (List (ByteArray × (Int × Int × Int × Int × Int × Int) × Bool × Bool × (List (Bool × Bool × List Int)) × Int × Int × Int))) ⊕ ((Int × (Int × ByteArray × Int × Int × Int × Int) × (List (ByteArray × (Int × Int × Int × Int × Int × Int) × Bool × Bool × (List (Bool × Bool × List Int)) × Int × Int × Int))) ⊕ Bool)) from
          if (decide ((0 : Int) ≤ y19.2.2.2.2.2.1.2.1 ∧ y19.2.2.2.2.2.1.2.1 < (y19.2.2.2.2.2.2.2.length : Int))) = true then
           (tapearchivelaw11_cost d y19.2.2.2.1 (y19.2.2.2.2.2.2.2.getD y19.2.2.2.2.2.1.2.1.toNat zCartridge).2.1 y19.2.2.2.2.1.2.2.1 y19.2.2.2.2.2.2.1.1.2.2.1 y19.2.2.2.2.2.1).bind fun r21 =>
           if (!decide (y19.2.2.2.2.2.2.1.2.2.2.1 = r21)) = true then
            some (.inr (.inr false))
           else
            if (!decide (y19.2.2.2.2.2.1.1 = 4)) = true then
             if (decide ((0 : Int) ≤ y19.2.2.2.2.2.1.2.1 ∧ y19.2.2.2.2.2.1.2.1 < (y19.2.2.2.2.2.2.2.length : Int))) = true then
              (tapearchiveref11_SameBlocks d y19.2.2.2.2.2.2.1.2.1.2.2.2.2.1 (y19.2.2.2.2.2.2.2.getD y19.2.2.2.2.2.1.2.1.toNat zCartridge).2.2.2.2.1).bind fun r22 =>
              if (!r22) = true then
               some (.inr (.inr false))
              else
               some (.inl (y19.1, y19.2.1, y19.2.2.1, y19.2.2.2.1, y19.2.2.2.2.1, y19.2.2.2.2.2.1, y19.2.2.2.2.2.2.1, y19.2.2.2.2.2.2.2))
             else none
            else
             some (.inl (y19.1, y19.2.1, y19.2.2.1, y19.2.2.2.1, y19.2.2.2.2.1, y19.2.2.2.2.2.1, y19.2.2.2.2.2.2.1, y19.2.2.2.2.2.2.2))
          else none).bind fun y23 => match y23 with
         | .inl y23 =>
          if (decide ((0 : Int) ≤ y23.2.2.2.2.2.1.2.1 ∧ y23.2.2.2.2.2.1.2.1 < (y23.2.2.2.2.2.2.2.length : Int))) = true then
           tapearchivelaw11_DriveCosts_l2 d k y23.1 y23.2.1 (IntKind.i64.wrap (y23.2.2.1 + 1)) y23.2.2.2.1 y23.2.2.2.2.2.2.1.1 (y23.2.2.2.2.2.2.2.set y23.2.2.2.2.2.1.2.1.toNat y23.2.2.2.2.2.2.1.2.1)
          else none
         | .inr x => some x
        | .inr x => some x
       else none
      | .inr x => some x
     else none
    else
     some (.inl (t8, h10, h22))
def tapearchivelaw11_DriveCosts_l4 (d : Nat) : Nat → Int → Int → Int → (Int × ByteArray × Int × Int × Int × Int) → (List (ByteArray × (Int × Int × Int × Int × Int × Int) × Bool × Bool × (List (Bool × Bool × List Int)) × Int × Int × Int)) → Option (Int × Int × (Int × ByteArray × Int × Int × Int × Int))
  | 0, _, _, _, _, _ => none
  | k + 1, t8, t14, t15, h10, h22 =>
    if (decide (t15 < (h22.length : Int))) = true then
     if (decide ((0 : Int) ≤ t15 ∧ t15 < (h22.length : Int))) = true then
      tapearchivelaw11_DriveCosts_l4 d k t8 (IntKind.i64.wrap (t14 + (h22.getD t15.toNat zCartridge).2.2.2.2.2.2.2)) (IntKind.i64.wrap (t15 + 1)) h10 h22
     else none
    else
     some (t8, t14, h10)
def tapearchivelaw11_DriveCosts (d : Nat) (a0 : Int × Int × Int × Int × Int) (a1 : List (ByteArray × (Int × Int × Int × Int × Int × Int) × Bool × Bool × (List (Bool × Bool × List Int)) × Int × Int × Int)) (a2 : List (Int × Int × Int × List (Bool × Bool × List Int))) : Option Bool :=
  (tapearchivelaw11_lives d).bind fun r1 =>
  if (!r1) = true then
   some false
  else
   (tapearchivelaw11_few d a1 a2 60).bind fun r2 =>
   if (!r2) = true then
    some true
   else
    (tapearchivelaw11_DriveCosts_l0 d d a1 a2 0 0 a0 []).bind fun y11 => match y11 with
    | .inl y11 =>
     (tapearchivelaw11_DriveCosts_l2 d d y11.1 y11.2.1 0 y11.2.2.1 (0, ByteArray.empty, 0, 0, 0, 0) y11.2.2.2).bind fun y24 => match y24 with
     | .inl y24 =>
      (tapearchivelaw11_DriveCosts_l4 d d y24.1 0 0 y24.2.1 y24.2.2).bind fun y27 =>
      some (decide (y27.2.2.2.2.2.2.1 = (IntKind.i64.wrap (y27.2.1 - y27.1))))
     | .inr r25 =>
      some r25
    | .inr r12 =>
     some r12
def tapearchivelaw11_DriveWears_l0 (d : Nat) : Nat → (List (Int × Int × Int × List (Bool × Bool × List Int))) → Int → (Int × Int × Int × Int × Int) → (Int × ByteArray × Int × Int × Int × Int) → (ByteArray × (Int × Int × Int × Int × Int × Int) × Bool × Bool × (List (Bool × Bool × List Int)) × Int × Int × Int) → Option (Unit ⊕ Bool)
  | 0, _, _, _, _, _ => none
  | k + 1, t3, t16, h4, h5, h6 =>
    if (decide (t16 < (t3.length : Int))) = true then
     (tapearchiveref11_Copied d h6).bind fun r14 =>
     if (decide ((0 : Int) ≤ t16 ∧ t16 < (t3.length : Int))) = true then
      (tapearchivelaw11_program d h4 h5 r14 (t3.getD t16.toNat ztapearchivelaw11_Step)).bind fun r15 =>
      if (!decide (r15.2.2.2.2 = 16)) = true then
       if (!decide (r15.2.2.2.2 = 8)) = true then
        some (.inr false)
       else
        tapearchivelaw11_DriveWears_l0 d k t3 (IntKind.i64.wrap (t16 + 1)) h4 h5 h6
      else
       tapearchivelaw11_DriveWears_l0 d k t3 (IntKind.i64.wrap (t16 + 1)) h4 h5 h6
     else none
    else
     some (.inl ())
def tapearchivelaw11_DriveWears (d : Nat) (a0 : Int × Int × Int × Int × Int) (a1 : Int × ByteArray × Int × Int × Int × Int) (a2 : ByteArray × (Int × Int × Int × Int × Int × Int) × Bool × Bool × (List (Bool × Bool × List Int)) × Int × Int × Int) (a3 : List (Int × Int × Int × List (Bool × Bool × List Int))) : Option Bool :=
  (tapearchivelaw11_lives d).bind fun r1 =>
  if (!r1) = true then
   some false
  else
   (tapearchivelaw11_few d [a2] a3 20).bind fun r2 =>
   if (!r2) = true then
    some true
   else
    (tapearchiveref11_Copied d a2).bind fun r3 =>
    (drive_Load d a0 a1 r3).bind fun r4 =>
    (show Option (((List (Int × Int × Int × List (Bool × Bool × List Int))) × (Int × Int × Int × Int × Int) × (Int × ByteArray × Int × Int × Int × Int) × (ByteArray × (Int × Int × Int × Int × Int × Int) × Bool × Bool × (List (Bool × Bool × List Int)) × Int × Int × Int)) ⊕ Bool) from
     if (decide (r4.2.2.2 = 0)) = true then
      (drive_Due d a0 a1).bind fun r6 =>
      if r6 = true then
       some (.inr false)
      else
       if (!decide (a1.1 = 0)) = true then
        some (.inr false)
       else
        some (.inl (a3, a0, a1, a2))
     else
      some (.inl (a3, a0, a1, a2))).bind fun y7 => match y7 with
    | .inl y7 =>
     (show Option (((List (Int × Int × Int × List (Bool × Bool × List Int))) × (Int × Int × Int × Int × Int) × (Int × ByteArray × Int × Int × Int × Int) × (ByteArray × (Int × Int × Int × Int × Int × Int) × Bool × Bool × (List (Bool × Bool × List Int)) × Int × Int × Int)) ⊕ Bool) from
      (drive_Due d y7.2.1 y7.2.2.1).bind fun r9 =>
      if r9 = true then
       (drive_Clean d y7.2.1 y7.2.2.1).bind fun r10 =>
       if (decide (r10.2.2 = 0)) = true then
        (drive_Due d y7.2.1 r10.1).bind fun r11 =>
        if r11 = true then
         some (.inr false)
        else
         if (!decide (r10.1.2.2.2.2.2 = 0)) = true then
          some (.inr false)
         else
          some (.inl (y7.1, y7.2.1, y7.2.2.1, y7.2.2.2))
       else
        some (.inl (y7.1, y7.2.1, y7.2.2.1, y7.2.2.2))
      else
       some (.inl (y7.1, y7.2.1, y7.2.2.1, y7.2.2.2))).bind fun y12 => match y12 with
     | .inl y12 =>
      (tapearchivelaw11_DriveWears_l0 d d y12.1 0 y12.2.1 (2, y12.2.2.1.2) y12.2.2.2).bind fun y16 => match y16 with
      | .inl y16 =>
       some true
      | .inr r17 =>
       some r17
     | .inr x => some x
    | .inr x => some x
end Go.Proofs.Ytlkjklacanedoaa.Den.G11
