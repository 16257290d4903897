/- The plain functions of the Go code: written by emit.py. -/
import Derived.Test.YtkgjchmfiohciaaDenA
set_option linter.unusedVariables false
namespace Go.Proofs.Ytkgjchmfiohciaa.Den.G14
open Go.Proofs.Ytkgjchmfiohciaa.Den Go
abbrev kBlock : K := .pair .bool (.pair .bool (.slice (.int .u8)))
abbrev zBlock : Bool × Bool × List Int := (false, false, [])
abbrev kLabel : K := .pair .str (.pair .str (.pair (.int .i64) (.int .i64)))
abbrev zLabel : ByteArray × ByteArray × Int × Int := (ByteArray.empty, ByteArray.empty, 0, 0)
def label_in (d : Nat) (a0 : Int) (a1 : List Int) : Option Bool :=
  if (decide ((a1.length : Int) = 2)) = true then
   if (!(decide ((a1 : List Int) = [0, 0]))) = true then
    if (decide ((0 : Int) ≤ 0 ∧ (0 : Int) < 2 ∧ 0 < (a1.length : Int))) = true then
     if (decide (a0 ≥ (a1.getD 0 0))) = true then
      if (decide ((0 : Int) ≤ 1 ∧ (1 : Int) < 2 ∧ 1 < (a1.length : Int))) = true then
       some (decide (a0 ≤ (a1.getD 1 0)))
      else none
     else
      some false
    else none
   else
    some false
  else none
def label_digit (d : Nat) (a0 : Int) : Option Bool :=
  (label_in d a0 [48, 57]).bind fun r1 =>
  some r1
def label_Name_1 (d : Nat) (a0 : Int) (a1 : Int) : Option Bool :=
  (label_in d a1 [97, 122]).bind fun r1 =>
  if r1 = true then
   some true
  else
   if (decide (a0 > 0)) = true then
    (label_digit d a1).bind fun r2 =>
    if r2 = true then
     some true
    else
     some (decide (a1 = 45))
   else
    some false
def label_word_string_label_Name_1_l0 (d : Nat) : Nat → ByteArray → Int → Int → Option (ByteArray ⊕ Bool)
  | 0, _, _, _ => none
  | k + 1, t0, t7, t8 =>
    if (decide (t8 < t7)) = true then
     if (decide ((0 : Int) ≤ t8 ∧ t8 < (ByteArray.size t0 : Int))) = true then
      (label_Name_1 d t8 (((ByteArray.data t0).getD t8.toNat 0).toNat : Int)).bind fun r2 =>
      if (!r2) = true then
       some (.inr false)
      else
       label_word_string_label_Name_1_l0 d k t0 t7 (IntKind.i64.wrap (t8 + 1))
     else none
    else
     some (.inl t0)
def label_word_string_label_Name_1 (d : Nat) (a0 : ByteArray) : Option Bool :=
  (label_word_string_label_Name_1_l0 d d a0 (a0.size : Int) 0).bind fun y3 => match y3 with
  | .inl y3 =>
   if (decide ((y3.size : Int) ≥ 1)) = true then
    some (decide ((y3.size : Int) ≤ 24))
   else
    some false
  | .inr r4 =>
   some r4
def label_Name (d : Nat) (a0 : ByteArray) : Option Bool :=
  (label_word_string_label_Name_1 d a0).bind fun r1 =>
  some r1
def label_barcode_1 (d : Nat) (a0 : Int) (a1 : Int) : Option Bool :=
  (label_digit d a1).bind fun r1 =>
  if r1 = true then
   some true
  else
   (label_in d a1 [65, 90]).bind fun r2 =>
   some r2
def label_word_string_label_barcode_1_l0 (d : Nat) : Nat → ByteArray → Int → Int → Option (ByteArray ⊕ Bool)
  | 0, _, _, _ => none
  | k + 1, t0, t7, t8 =>
    if (decide (t8 < t7)) = true then
     if (decide ((0 : Int) ≤ t8 ∧ t8 < (ByteArray.size t0 : Int))) = true then
      (label_barcode_1 d t8 (((ByteArray.data t0).getD t8.toNat 0).toNat : Int)).bind fun r2 =>
      if (!r2) = true then
       some (.inr false)
      else
       label_word_string_label_barcode_1_l0 d k t0 t7 (IntKind.i64.wrap (t8 + 1))
     else none
    else
     some (.inl t0)
def label_word_string_label_barcode_1 (d : Nat) (a0 : ByteArray) : Option Bool :=
  (label_word_string_label_barcode_1_l0 d d a0 (a0.size : Int) 0).bind fun y3 => match y3 with
  | .inl y3 =>
   if (decide ((y3.size : Int) ≥ 1)) = true then
    some (decide ((y3.size : Int) ≤ 24))
   else
    some false
  | .inr r4 =>
   some r4
def label_barcode (d : Nat) (a0 : ByteArray) : Option Bool :=
  (label_word_string_label_barcode_1 d a0).bind fun r1 =>
  some r1
def label_Valid (d : Nat) (a0 : ByteArray × ByteArray × Int × Int) : Option Bool :=
  (label_barcode d a0.1).bind fun r1 =>
  if r1 = true then
   (label_Name d a0.2.1).bind fun r2 =>
   if r2 = true then
    if (decide (a0.2.2.1 ≥ 0)) = true then
     if (decide (a0.2.2.1 ≤ 1125899906842624)) = true then
      if (decide (a0.2.2.2 ≥ 0)) = true then
       some (decide (a0.2.2.2 < 1099511627776))
      else
       some false
     else
      some false
    else
     some false
   else
    some false
  else
   some false
def label_Divide_l0 (d : Nat) : Nat → (List Int) → Int → (List (Bool × Bool × List Int)) → Option ((List (Bool × Bool × List Int)))
  | 0, _, _, _ => none
  | k + 1, t0, t4, h2000001 =>
    if (decide (t4 < (t0.length : Int))) = true then
     if (decide (0 ≤ (64 : Int) ∧ (64 : Int) ≤ (64 : Int) ∧ (1 : Int) * (64 : Int) ≤ 281474976710656 ∧ (64 : Int) ≤ 9223372036854775807)) = true then
      if (decide (0 ≤ t4 ∧ t4 ≤ (t0.length : Int) ∧ (t0.length : Int) ≤ (t0.length : Int))) = true then
       if (decide ((h2000001.length + ([(false, false, (cpy (List.replicate 64 0) ((t0.take (t0.length : Int).toNat).drop t4.toNat) 0 (List.replicate 64 0).length))] : List (Bool × Bool × List Int)).length) * 32 ≤ 140737488355328)) = true then
        label_Divide_l0 d k t0 (IntKind.i64.wrap (t4 + 64)) (h2000001 ++ [(false, false, (cpy (List.replicate 64 0) ((t0.take (t0.length : Int).toNat).drop t4.toNat) 0 (List.replicate 64 0).length))])
       else none
      else none
     else none
    else
     some h2000001
def label_Divide (d : Nat) (a0 : List Int) : Option ((List (Bool × Bool × List Int))) :=
  (label_Divide_l0 d d a0 0 []).bind fun y3 =>
  some y3
def frame_magic (d : Nat) : Option ((List Int)) :=
  if (decide (((List.replicate 2 0).length : Int) = 2)) = true then
   (if (decide (([167, 60].length : Int) = 2)) = true then some [167, 60] else none).bind fun r1 =>
   some r1
  else none
def frame_four (d : Nat) (a0 : Int) : Option ((List Int)) :=
  if (decide (((List.replicate 4 0).length : Int) = 4)) = true then
   (if (decide (([(IntKind.u8.wrap ((Int.fdiv a0 (2 ^ (min 24 32))))), (IntKind.u8.wrap ((Int.fdiv a0 (2 ^ (min 16 32))))), (IntKind.u8.wrap ((Int.fdiv a0 (2 ^ (min 8 32))))), (IntKind.u8.wrap (a0))].length : Int) = 4)) = true then some [(IntKind.u8.wrap ((Int.fdiv a0 (2 ^ (min 24 32))))), (IntKind.u8.wrap ((Int.fdiv a0 (2 ^ (min 16 32))))), (IntKind.u8.wrap ((Int.fdiv a0 (2 ^ (min 8 32))))), (IntKind.u8.wrap (a0))] else none).bind fun r1 =>
   some r1
  else none
def checksum_step (d : Nat) (a0 : Int) : Option Int :=
  if (decide ((IntKind.u32.wrap (BitVec.ofInt 32 a0 &&& BitVec.ofInt 32 1).toNat) = 1)) = true then
   some (IntKind.u32.wrap (BitVec.ofInt 32 (Int.fdiv a0 (2 ^ (min 1 32))) ^^^ BitVec.ofInt 32 2197175160).toNat)
  else
   some (Int.fdiv a0 (2 ^ (min 1 32)))
def checksum_remainders_l2 (d : Nat) : Nat → Int → Int → Int → Int → (List Int) → (List Int) → Option (Int × Int × Int × (List Int) × (List Int))
  | 0, _, _, _, _, _, _ => none
  | k + 1, t2, t3, t4, t9, h0, h1 =>
    if (decide (t9 < 8)) = true then
     (checksum_step d t3).bind fun r3 =>
     checksum_remainders_l2 d k t2 r3 t4 (IntKind.i64.wrap (t9 + 1)) h0 h1
    else
     some (t2, t3, t4, h0, h1)
def checksum_remainders_l0 (d : Nat) : Nat → Int → (List Int) → (List Int) → Option ((List Int) × (List Int))
  | 0, _, _, _ => none
  | k + 1, t4, h0, h1 =>
    if (decide (t4 < 256)) = true then
     (checksum_remainders_l2 d d t4 (IntKind.u32.wrap (t4)) t4 0 h0 h1).bind fun y4 =>
     if (decide ((0 : Int) ≤ y4.1 ∧ (y4.1 : Int) < 256 ∧ y4.1 < (y4.2.2.2.2.length : Int))) = true then
      checksum_remainders_l0 d k (IntKind.i64.wrap (y4.2.2.1 + 1)) y4.2.2.2.1 (y4.2.2.2.2.set y4.1.toNat y4.2.1)
     else none
    else
     some (h0, h1)
def checksum_remainders (d : Nat) : Option ((List Int)) :=
  (checksum_remainders_l0 d d 0 (List.replicate 256 0) (List.replicate 256 0)).bind fun y5 =>
  if (decide ((y5.2.length : Int) = 256)) = true then
   if (decide ((y5.1.length : Int) = 256)) = true then
    (if (decide ((y5.2.length : Int) = 256)) = true then some y5.2 else none).bind fun r6 =>
    some r6
   else none
  else none
def checksum_Update_l0 (d : Nat) : Nat → Int → (List Int) → Int → Int → (List Int) → Option Int
  | 0, _, _, _, _, _ => none
  | k + 1, t6, t12, t13, t14, h5 =>
    if (decide (t14 < t13)) = true then
     if (decide ((0 : Int) ≤ t14 ∧ t14 < (t12.length : Int))) = true then
      if (decide ((0 : Int) ≤ (IntKind.u8.wrap (BitVec.ofInt 8 (IntKind.u8.wrap (t6)) ^^^ BitVec.ofInt 8 (t12.getD t14.toNat 0)).toNat) ∧ ((IntKind.u8.wrap (BitVec.ofInt 8 (IntKind.u8.wrap (t6)) ^^^ BitVec.ofInt 8 (t12.getD t14.toNat 0)).toNat) : Int) < 256 ∧ (IntKind.u8.wrap (BitVec.ofInt 8 (IntKind.u8.wrap (t6)) ^^^ BitVec.ofInt 8 (t12.getD t14.toNat 0)).toNat) < (h5.length : Int))) = true then
       checksum_Update_l0 d k (IntKind.u32.wrap (BitVec.ofInt 32 (Int.fdiv t6 (2 ^ (min 8 32))) ^^^ BitVec.ofInt 32 (h5.getD (IntKind.u8.wrap (BitVec.ofInt 8 (IntKind.u8.wrap (t6)) ^^^ BitVec.ofInt 8 (t12.getD t14.toNat 0)).toNat).toNat 0)).toNat) t12 t13 (IntKind.i64.wrap (t14 + 1)) h5
      else none
     else none
    else
     some t6
def checksum_Update (d : Nat) (a0 : Int) (a1 : List Int) : Option Int :=
  (checksum_remainders d).bind fun r1 =>
  if (decide (((List.replicate 256 0).length : Int) = 256)) = true then
   (checksum_Update_l0 d d (IntKind.u32.wrap (BitVec.ofInt 32 4294967295 ^^^ BitVec.ofInt 32 a0).toNat) a1 (a1.length : Int) 0 r1).bind fun y3 =>
   some (IntKind.u32.wrap (BitVec.ofInt 32 4294967295 ^^^ BitVec.ofInt 32 y3).toNat)
  else none
def checksum_Sum (d : Nat) (a0 : List Int) : Option Int :=
  (checksum_Update d 0 a0).bind fun r1 =>
  some r1
def frame_sum (d : Nat) (a0 : List Int) (a1 : List Int) : Option Int :=
  if (decide (0 ≤ (0 : Int) ∧ (0 : Int) ≤ (4 : Int) ∧ (4 : Int) ≤ 4 ∧ (a0.length : Int) = 4)) = true then
   (checksum_Sum d ((a0.drop 0).take (4 - 0))).bind fun r1 =>
   (checksum_Update d r1 a1).bind fun r2 =>
   some r2
  else none
def frame_Append (d : Nat) (a0 : List Int) (a1 : List Int) : Option ((List Int) × Int) :=
  if (decide ((a1.length : Int) > 65536)) = true then
   some ([], 6)
  else
   (frame_magic d).bind fun r1 =>
   (frame_four d (IntKind.u32.wrap ((a1.length : Int)))).bind fun r2 =>
   if (decide (((List.replicate 2 0).length : Int) = 2)) = true then
    if (decide (((List.replicate 4 0).length : Int) = 4)) = true then
     if (decide ((r2.length : Int) = 4)) = true then
      (frame_sum d r2 a1).bind fun r3 =>
      (frame_four d r3).bind fun r4 =>
      if (decide (((List.replicate 4 0).length : Int) = 4)) = true then
       if (decide (0 ≤ (0 : Int) ∧ (0 : Int) ≤ (IntKind.i64.wrap ((IntKind.i64.wrap ((a0.length : Int) + 10)) + (a1.length : Int))) ∧ (1 : Int) * (IntKind.i64.wrap ((IntKind.i64.wrap ((a0.length : Int) + 10)) + (a1.length : Int))) ≤ 281474976710656 ∧ (IntKind.i64.wrap ((IntKind.i64.wrap ((a0.length : Int) + 10)) + (a1.length : Int))) ≤ 9223372036854775807)) = true then
        if (decide (((List.replicate 0 0).length + a0.length) * 1 ≤ 140737488355328)) = true then
         if (decide (0 ≤ (0 : Int) ∧ (0 : Int) ≤ (2 : Int) ∧ (2 : Int) ≤ 2 ∧ (r1.length : Int) = 2)) = true then
          if (decide ((((List.replicate 0 0) ++ a0).length + ((r1.drop 0).take (2 - 0)).length) * 1 ≤ 140737488355328)) = true then
           if (decide (0 ≤ (0 : Int) ∧ (0 : Int) ≤ (4 : Int) ∧ (4 : Int) ≤ 4 ∧ (r2.length : Int) = 4)) = true then
            if (decide (((((List.replicate 0 0) ++ a0) ++ ((r1.drop 0).take (2 - 0))).length + ((r2.drop 0).take (4 - 0)).length) * 1 ≤ 140737488355328)) = true then
             if (decide (0 ≤ (0 : Int) ∧ (0 : Int) ≤ (4 : Int) ∧ (4 : Int) ≤ 4 ∧ (r4.length : Int) = 4)) = true then
              if (decide ((((((List.replicate 0 0) ++ a0) ++ ((r1.drop 0).take (2 - 0))) ++ ((r2.drop 0).take (4 - 0))).length + ((r4.drop 0).take (4 - 0)).length) * 1 ≤ 140737488355328)) = true then
               if (decide (((((((List.replicate 0 0) ++ a0) ++ ((r1.drop 0).take (2 - 0))) ++ ((r2.drop 0).take (4 - 0))) ++ ((r4.drop 0).take (4 - 0))).length + a1.length) * 1 ≤ 140737488355328)) = true then
                some (((((((List.replicate 0 0) ++ a0) ++ ((r1.drop 0).take (2 - 0))) ++ ((r2.drop 0).take (4 - 0))) ++ ((r4.drop 0).take (4 - 0))) ++ a1), 0)
               else none
              else none
             else none
            else none
           else none
          else none
         else none
        else none
       else none
      else none
     else none
    else none
   else none
def codec_put_byte_l0 (d : Nat) : Nat → (List (List Int)) → Int → Int → (List Int) → Option ((List Int))
  | 0, _, _, _, _ => none
  | k + 1, t11, t12, t13, h8 =>
    if (decide (t13 < t12)) = true then
     if (decide ((0 : Int) ≤ t13 ∧ t13 < (t11.length : Int))) = true then
      if (decide ((h8.length + (t11.getD t13.toNat []).length) * 1 ≤ 140737488355328)) = true then
       codec_put_byte_l0 d k t11 t12 (IntKind.i64.wrap (t13 + 1)) (h8 ++ (t11.getD t13.toNat []))
      else none
     else none
    else
     some h8
def codec_put_byte (d : Nat) (a0 : List Int) (a1 : List (List Int)) : Option ((List Int)) :=
  if (decide ((0 + a0.length) * 1 ≤ 140737488355328)) = true then
   (codec_put_byte_l0 d d a1 (a1.length : Int) 0 ([] ++ a0)).bind fun y2 =>
   some y2
  else none
def codec_groups_l0 (d : Nat) : Nat → Int → (List Int) → Option (Int × (List Int))
  | 0, _, _ => none
  | k + 1, t0, h2000001 =>
    if (decide (t0 ≥ 128)) = true then
     if (decide ((h2000001.length + ([(IntKind.u8.wrap ((IntKind.u8.wrap ((Int.tmod t0 128))) + 128))] : List Int).length) * 1 ≤ 140737488355328)) = true then
      codec_groups_l0 d k (IntKind.u64.wrap (Int.tdiv t0 128)) (h2000001 ++ [(IntKind.u8.wrap ((IntKind.u8.wrap ((Int.tmod t0 128))) + 128))])
     else none
    else
     some (t0, h2000001)
def codec_groups (d : Nat) (a0 : Int) : Option ((List Int)) :=
  (codec_groups_l0 d d a0 []).bind fun y3 =>
  if (decide ((y3.2.length + ([(IntKind.u8.wrap (y3.1))] : List Int).length) * 1 ≤ 140737488355328)) = true then
   some (y3.2 ++ [(IntKind.u8.wrap (y3.1))])
  else none
def codec_PutText (d : Nat) (a0 : List Int) (a1 : ByteArray) : Option ((List Int)) :=
  (codec_groups d (IntKind.u64.wrap ((a1.size : Int)))).bind fun r1 =>
  (codec_put_byte d a0 [r1, (bytesOf a1)]).bind fun r2 =>
  some r2
def codec_code (d : Nat) (a0 : Int) : Option Int :=
  if (decide (a0 < 0)) = true then
   some (IntKind.u64.wrap ((IntKind.u64.wrap (2 * (IntKind.u64.wrap ((IntKind.i64.wrap (0 - (IntKind.i64.wrap (a0 + 1)))))))) + 1))
  else
   some (IntKind.u64.wrap (2 * (IntKind.u64.wrap (a0))))
def codec_PutInt (d : Nat) (a0 : List Int) (a1 : Int) : Option ((List Int)) :=
  (codec_code d a1).bind fun r1 =>
  (codec_groups d r1).bind fun r2 =>
  (codec_put_byte d a0 [r2]).bind fun r3 =>
  some r3
def label_body_l0 (d : Nat) : Nat → (List Int) → (List ByteArray) → Int → (ByteArray × ByteArray × Int × Int) → Option ((List Int) × (ByteArray × ByteArray × Int × Int))
  | 0, _, _, _, _ => none
  | k + 1, t3, t11, t12, h1 =>
    if (decide (t12 < 2)) = true then
     if (decide ((0 : Int) ≤ t12 ∧ (t12 : Int) < 2)) = true then
      (codec_PutText d t3 (t11.getD t12.toNat ByteArray.empty)).bind fun r3 =>
      label_body_l0 d k r3 t11 (IntKind.i64.wrap (t12 + 1)) h1
     else none
    else
     some (t3, h1)
def label_body (d : Nat) (a0 : ByteArray × ByteArray × Int × Int) : Option ((List Int)) :=
  (codec_PutText d [] ⟨#[118, 111, 108, 117, 109, 101]⟩).bind fun r1 =>
  (label_body_l0 d d r1 [a0.1, a0.2.1] 0 a0).bind fun y4 =>
  (codec_PutInt d y4.1 y4.2.2.2.1).bind fun r5 =>
  (codec_PutInt d r5 y4.2.2.2.2).bind fun r6 =>
  some r6
def label_Blocks (d : Nat) (a0 : ByteArray × ByteArray × Int × Int) : Option ((List (Bool × Bool × List Int)) × Int) :=
  (label_Valid d a0).bind fun r1 =>
  if (!r1) = true then
   some ([], 8)
  else
   (label_body d a0).bind fun r2 =>
   (frame_Append d [] r2).bind fun r3 =>
   if (!decide (r3.2 = 0)) = true then
    some ([], r3.2)
   else
    (label_Divide d r3.1).bind fun r4 =>
    if (decide ((r4.length + ([(true, false, [])] : List (Bool × Bool × List Int)).length) * 32 ≤ 140737488355328)) = true then
     some ((r4 ++ [(true, false, [])]), 0)
    else none
def label_Bytes_l0 (d : Nat) : Nat → (List (Bool × Bool × List Int)) → Int → Int → (List Int) → Option ((List Int))
  | 0, _, _, _, _ => none
  | k + 1, t6, t7, t8, h2000001 =>
    if (decide (t8 < t7)) = true then
     if (decide ((0 : Int) ≤ t8 ∧ t8 < (t6.length : Int))) = true then
      (show Option (((List (Bool × Bool × List Int)) × Int × Int × (Bool × Bool × List Int) × (List Int)) ⊕ ((List Int))) from
       if (t6.getD t8.toNat zBlock).1 = true then
        some (.inr h2000001)
       else
        if (t6.getD t8.toNat zBlock).2.1 = true then
         some (.inr h2000001)
        else
         some (.inl (t6, t7, t8, (t6.getD t8.toNat zBlock), h2000001))).bind fun y6 => match y6 with
      | .inl y6 =>
       if (decide ((y6.2.2.2.2.length + y6.2.2.2.1.2.2.length) * 1 ≤ 140737488355328)) = true then
        label_Bytes_l0 d k y6.1 y6.2.1 (IntKind.i64.wrap (y6.2.2.1 + 1)) (y6.2.2.2.2 ++ y6.2.2.2.1.2.2)
       else none
      | .inr x => some x
     else none
    else
     some h2000001
def label_Bytes (d : Nat) (a0 : List (Bool × Bool × List Int)) : Option ((List Int)) :=
  (label_Bytes_l0 d d a0 (a0.length : Int) 0 []).bind fun y7 =>
  some y7
def label_damaged_l0 (d : Nat) : Nat → (List (Bool × Bool × List Int)) → Int → Int → Option (Unit ⊕ Bool)
  | 0, _, _, _ => none
  | k + 1, t5, t6, t7 =>
    if (decide (t7 < t6)) = true then
     if (decide ((0 : Int) ≤ t7 ∧ t7 < (t5.length : Int))) = true then
      if (t5.getD t7.toNat zBlock).2.1 = true then
       some (.inr true)
      else
       if (t5.getD t7.toNat zBlock).1 = true then
        some (.inr false)
       else
        label_damaged_l0 d k t5 t6 (IntKind.i64.wrap (t7 + 1))
     else none
    else
     some (.inl ())
def label_damaged (d : Nat) (a0 : List (Bool × Bool × List Int)) : Option Bool :=
  (label_damaged_l0 d d a0 (a0.length : Int) 0).bind fun y2 => match y2 with
  | .inl y2 =>
   some false
  | .inr r3 =>
   some r3
def frame_number (d : Nat) (a0 : List Int) : Option Int :=
  if (decide ((0 : Int) ≤ 0 ∧ 0 < (a0.length : Int))) = true then
   if (decide ((0 : Int) ≤ 1 ∧ 1 < (a0.length : Int))) = true then
    if (decide ((0 : Int) ≤ 2 ∧ 2 < (a0.length : Int))) = true then
     if (decide ((0 : Int) ≤ 3 ∧ 3 < (a0.length : Int))) = true then
      some (IntKind.u32.wrap (BitVec.ofInt 32 (IntKind.u32.wrap (BitVec.ofInt 32 (IntKind.u32.wrap (BitVec.ofInt 32 (IntKind.u32.wrap ((IntKind.u32.wrap ((a0.getD 0 0))) * 2 ^ (min 24 32))) ||| BitVec.ofInt 32 (IntKind.u32.wrap ((IntKind.u32.wrap ((a0.getD 1 0))) * 2 ^ (min 16 32)))).toNat) ||| BitVec.ofInt 32 (IntKind.u32.wrap ((IntKind.u32.wrap ((a0.getD 2 0))) * 2 ^ (min 8 32)))).toNat) ||| BitVec.ofInt 32 (IntKind.u32.wrap ((a0.getD 3 0)))).toNat)
     else none
    else none
   else none
  else none
def frame_next (d : Nat) (a0 : List Int) (a1 : Int) : Option ((List Int) × Int × Int) :=
  (show Option (((List Int) × Int) ⊕ ((List Int) × Int × Int)) from
   if (decide (a1 < 0)) = true then
    some (.inr ([], 0, 7))
   else
    if (decide (a1 > (a0.length : Int))) = true then
     some (.inr ([], 0, 7))
    else
     some (.inl (a0, a1))).bind fun y2 => match y2 with
  | .inl y2 =>
   if (decide (0 ≤ y2.2 ∧ y2.2 ≤ (y2.1.length : Int) ∧ (y2.1.length : Int) ≤ (y2.1.length : Int))) = true then
    if (decide ((((y2.1.take (y2.1.length : Int).toNat).drop y2.2.toNat).length : Int) < 10)) = true then
     some ([], 0, 2)
    else
     if (decide (0 ≤ (0 : Int) ∧ (0 : Int) ≤ (2 : Int) ∧ (2 : Int) ≤ (((y2.1.take (y2.1.length : Int).toNat).drop y2.2.toNat).length : Int))) = true then
      if (decide ((2 : Int) ≤ (((((y2.1.take (y2.1.length : Int).toNat).drop y2.2.toNat).take 2).drop 0).length : Int))) = true then
       (frame_magic d).bind fun r3 =>
       if (!(decide (((((((y2.1.take (y2.1.length : Int).toNat).drop y2.2.toNat).take 2).drop 0).take 2) : List Int) = r3))) = true then
        some ([], 0, 1)
       else
        if (decide (0 ≤ (2 : Int) ∧ (2 : Int) ≤ (6 : Int) ∧ (6 : Int) ≤ (((y2.1.take (y2.1.length : Int).toNat).drop y2.2.toNat).length : Int))) = true then
         (frame_number d ((((y2.1.take (y2.1.length : Int).toNat).drop y2.2.toNat).take 6).drop 2)).bind fun r4 =>
         if (decide (r4 > 65536)) = true then
          some ([], 0, 6)
         else
          if (decide ((((y2.1.take (y2.1.length : Int).toNat).drop y2.2.toNat).length : Int) < (IntKind.i64.wrap (10 + (IntKind.i64.wrap (r4)))))) = true then
           some ([], 0, 2)
          else
           if (decide (0 ≤ (10 : Int) ∧ (10 : Int) ≤ (IntKind.i64.wrap (10 + (IntKind.i64.wrap (r4)))) ∧ (IntKind.i64.wrap (10 + (IntKind.i64.wrap (r4)))) ≤ (((y2.1.take (y2.1.length : Int).toNat).drop y2.2.toNat).length : Int))) = true then
            if (decide ((IntKind.i64.wrap (10 + (IntKind.i64.wrap (r4)))) = (IntKind.i64.wrap (10 + (IntKind.i64.wrap (r4)))))) = true then
             if (decide (0 ≤ (2 : Int) ∧ (2 : Int) ≤ (6 : Int) ∧ (6 : Int) ≤ (((y2.1.take (y2.1.length : Int).toNat).drop y2.2.toNat).length : Int))) = true then
              if (decide ((4 : Int) ≤ (((((y2.1.take (y2.1.length : Int).toNat).drop y2.2.toNat).take 6).drop 2).length : Int))) = true then
               (frame_sum d (((((y2.1.take (y2.1.length : Int).toNat).drop y2.2.toNat).take 6).drop 2).take 4) ((((y2.1.take (y2.1.length : Int).toNat).drop y2.2.toNat).take (IntKind.i64.wrap (10 + (IntKind.i64.wrap (r4)))).toNat).drop 10)).bind fun r5 =>
               if (decide (0 ≤ (6 : Int) ∧ (6 : Int) ≤ (10 : Int) ∧ (10 : Int) ≤ (((y2.1.take (y2.1.length : Int).toNat).drop y2.2.toNat).length : Int))) = true then
                (frame_number d ((((y2.1.take (y2.1.length : Int).toNat).drop y2.2.toNat).take 10).drop 6)).bind fun r6 =>
                if (!decide (r5 = r6)) = true then
                 some ([], 0, 4)
                else
                 some (((((y2.1.take (y2.1.length : Int).toNat).drop y2.2.toNat).take (IntKind.i64.wrap (10 + (IntKind.i64.wrap (r4)))).toNat).drop 10), (IntKind.i64.wrap (y2.2 + (IntKind.i64.wrap (10 + (IntKind.i64.wrap (r4)))))), 0)
               else none
              else none
             else none
            else none
           else none
        else none
      else none
     else none
   else none
  | .inr x => some x
def bytes_Clone (d : Nat) (a0 : List Int) : Option (List Int) :=
  if (decide ((0 + a0.length) * 1 ≤ 140737488355328)) = true then some a0 else none
def frame_Next (d : Nat) (a0 : List Int) (a1 : Int) : Option ((List Int) × Int × Int) :=
  (frame_next d a0 a1).bind fun r1 =>
  (bytes_Clone d r1.1).bind fun r2 =>
  some (r2, r1.2.1, r1.2.2)
def codec_Uint_l0 (d : Nat) : Nat → Int → (List Int) → Int → (List Int) → Int → Int → Option (((List Int)) ⊕ (Int × Int × Int))
  | 0, _, _, _, _, _, _ => none
  | k + 1, t1, t7, t8, t27, t28, t29 =>
    if (decide (t29 < t28)) = true then
     if (decide ((0 : Int) ≤ t29 ∧ t29 < (t27.length : Int))) = true then
      if (decide ((t27.getD t29.toNat 0) ≥ 128)) = true then
       if (decide (0 ≤ (IntKind.i64.wrap (7 * t29)))) = true then
       codec_Uint_l0 d k t1 t7 (IntKind.u64.wrap (t8 + (IntKind.u64.wrap ((IntKind.u64.wrap ((IntKind.u8.wrap ((t27.getD t29.toNat 0) - 128)))) * 2 ^ (min (IntKind.i64.wrap (7 * t29)).toNat 64))))) t27 t28 (IntKind.i64.wrap (t29 + 1))
       else none
      else
       (show Option ((Int × Int × Int × Int) ⊕ (((List Int)) ⊕ (Int × Int × Int))) from
        if (decide (t29 = 9)) = true then
         if (decide ((t27.getD t29.toNat 0) > 1)) = true then
          some (.inr (.inr (0, 0, 6)))
         else
          if (decide (t29 > 0)) = true then
           if (decide ((t27.getD t29.toNat 0) = 0)) = true then
            some (.inr (.inr (0, 0, 1)))
           else
            some (.inl (t1, t8, t29, (t27.getD t29.toNat 0)))
          else
           some (.inl (t1, t8, t29, (t27.getD t29.toNat 0)))
        else
         if (decide (t29 > 0)) = true then
          if (decide ((t27.getD t29.toNat 0) = 0)) = true then
           some (.inr (.inr (0, 0, 1)))
          else
           some (.inl (t1, t8, t29, (t27.getD t29.toNat 0)))
         else
          some (.inl (t1, t8, t29, (t27.getD t29.toNat 0)))).bind fun y5 => match y5 with
       | .inl y5 =>
        if (decide (0 ≤ (IntKind.i64.wrap (7 * y5.2.2.1)))) = true then
        some (.inr ((IntKind.u64.wrap (y5.2.1 + (IntKind.u64.wrap ((IntKind.u64.wrap (y5.2.2.2)) * 2 ^ (min (IntKind.i64.wrap (7 * y5.2.2.1)).toNat 64))))), (IntKind.i64.wrap ((IntKind.i64.wrap (y5.1 + y5.2.2.1)) + 1)), 0))
        else none
       | .inr x => some x
     else none
    else
     some (.inl t7)
def codec_Uint (d : Nat) (a0 : List Int) (a1 : Int) : Option (Int × Int × Int) :=
  (show Option (((List Int) × Int) ⊕ (Int × Int × Int)) from
   if (decide (a1 < 0)) = true then
    some (.inr (0, 0, 7))
   else
    if (decide (a1 > (a0.length : Int))) = true then
     some (.inr (0, 0, 7))
    else
     some (.inl (a0, a1))).bind fun y2 => match y2 with
  | .inl y2 =>
   if (decide (0 ≤ y2.2 ∧ y2.2 ≤ (min (IntKind.i64.wrap (y2.2 + 10)) (y2.1.length : Int)) ∧ (min (IntKind.i64.wrap (y2.2 + 10)) (y2.1.length : Int)) ≤ (y2.1.length : Int))) = true then
    (codec_Uint_l0 d d y2.2 ((y2.1.take (min (IntKind.i64.wrap (y2.2 + 10)) (y2.1.length : Int)).toNat).drop y2.2.toNat) 0 ((y2.1.take (min (IntKind.i64.wrap (y2.2 + 10)) (y2.1.length : Int)).toNat).drop y2.2.toNat) (((y2.1.take (min (IntKind.i64.wrap (y2.2 + 10)) (y2.1.length : Int)).toNat).drop y2.2.toNat).length : Int) 0).bind fun y6 => match y6 with
    | .inl y6 =>
     if (decide ((y6.length : Int) = 10)) = true then
      some (0, 0, 6)
     else
      some (0, 0, 2)
    | .inr r7 =>
     some r7
   else none
  | .inr x => some x
def codec_Text (d : Nat) (a0 : List Int) (a1 : Int) (a2 : Int) : Option (ByteArray × Int × Int) :=
  (codec_Uint d a0 a1).bind fun r1 =>
  (show Option (((List Int) × Int × Int) ⊕ (ByteArray × Int × Int)) from
   if (!decide (r1.2.2 = 0)) = true then
    some (.inr (⟨#[]⟩, 0, r1.2.2))
   else
    if (decide (a2 < 0)) = true then
     some (.inr (⟨#[]⟩, 0, 6))
    else
     if (decide (r1.1 > (IntKind.u64.wrap (a2)))) = true then
      some (.inr (⟨#[]⟩, 0, 6))
     else
      if (decide (r1.1 > (IntKind.u64.wrap ((IntKind.i64.wrap ((a0.length : Int) - r1.2.1)))))) = true then
       some (.inr (⟨#[]⟩, 0, 2))
      else
       some (.inl (a0, r1.1, r1.2.1))).bind fun y3 => match y3 with
  | .inl y3 =>
   if (decide (0 ≤ y3.2.2 ∧ y3.2.2 ≤ (IntKind.i64.wrap (y3.2.2 + (IntKind.i64.wrap (y3.2.1)))) ∧ (IntKind.i64.wrap (y3.2.2 + (IntKind.i64.wrap (y3.2.1)))) ≤ (y3.1.length : Int))) = true then
    some ((strOf ((y3.1.take (IntKind.i64.wrap (y3.2.2 + (IntKind.i64.wrap (y3.2.1)))).toNat).drop y3.2.2.toNat)), (IntKind.i64.wrap (y3.2.2 + (IntKind.i64.wrap (y3.2.1)))), 0)
   else none
  | .inr x => some x
def codec_Int (d : Nat) (a0 : List Int) (a1 : Int) : Option (Int × Int × Int) :=
  (codec_Uint d a0 a1).bind fun r1 =>
  if (!decide (r1.2.2 = 0)) = true then
   some (0, 0, r1.2.2)
  else
   if (decide ((Int.tmod r1.1 2) = 1)) = true then
    some ((IntKind.i64.wrap ((IntKind.i64.wrap (0 - (IntKind.i64.wrap ((IntKind.u64.wrap (Int.tdiv r1.1 2)))))) - 1)), r1.2.1, 0)
   else
    some ((IntKind.i64.wrap ((IntKind.u64.wrap (Int.tdiv r1.1 2)))), r1.2.1, 0)
def label_fields (d : Nat) (a0 : List Int) : Option ((ByteArray × ByteArray × Int × Int) × Int) :=
  (codec_Text d a0 0 24).bind fun r1 =>
  if (!decide (r1.2.2 = 0)) = true then
   some ((ByteArray.empty, ByteArray.empty, 0, 0), r1.2.2)
  else
   if (!decide (r1.1 = ⟨#[118, 111, 108, 117, 109, 101]⟩)) = true then
    some ((ByteArray.empty, ByteArray.empty, 0, 0), 1)
   else
    if (decide ((0 : Int) ≤ 0 ∧ (0 : Int) < 3 ∧ 0 < ((List.replicate 3 ByteArray.empty).length : Int))) = true then
     (codec_Text d a0 r1.2.1 24).bind fun r2 =>
     if (!decide (r2.2.2 = 0)) = true then
      some ((ByteArray.empty, ByteArray.empty, 0, 0), r2.2.2)
     else
      if (decide ((0 : Int) ≤ 1 ∧ (1 : Int) < 3 ∧ 1 < (((List.replicate 3 ByteArray.empty).set 0 r1.1).length : Int))) = true then
       (codec_Text d a0 r2.2.1 24).bind fun r3 =>
       if (!decide (r3.2.2 = 0)) = true then
        some ((ByteArray.empty, ByteArray.empty, 0, 0), r3.2.2)
       else
        if (decide ((0 : Int) ≤ 2 ∧ (2 : Int) < 3 ∧ 2 < ((((List.replicate 3 ByteArray.empty).set 0 r1.1).set 1 r2.1).length : Int))) = true then
         (codec_Int d a0 r3.2.1).bind fun r4 =>
         if (!decide (r4.2.2 = 0)) = true then
          some ((ByteArray.empty, ByteArray.empty, 0, 0), r4.2.2)
         else
          if (decide ((0 : Int) ≤ 0 ∧ (0 : Int) < 2 ∧ 0 < ((List.replicate 2 0).length : Int))) = true then
           (codec_Int d a0 r4.2.1).bind fun r5 =>
           if (!decide (r5.2.2 = 0)) = true then
            some ((ByteArray.empty, ByteArray.empty, 0, 0), r5.2.2)
           else
            if (decide ((0 : Int) ≤ 1 ∧ (1 : Int) < 2 ∧ 1 < (((List.replicate 2 0).set 0 r4.1).length : Int))) = true then
             if (decide ((0 : Int) ≤ 1 ∧ (1 : Int) < 3 ∧ 1 < (((((List.replicate 3 ByteArray.empty).set 0 r1.1).set 1 r2.1).set 2 r3.1).length : Int))) = true then
              if (decide ((0 : Int) ≤ 2 ∧ (2 : Int) < 3 ∧ 2 < (((((List.replicate 3 ByteArray.empty).set 0 r1.1).set 1 r2.1).set 2 r3.1).length : Int))) = true then
               if (decide ((0 : Int) ≤ 0 ∧ (0 : Int) < 2 ∧ 0 < ((((List.replicate 2 0).set 0 r4.1).set 1 r5.1).length : Int))) = true then
                if (decide ((0 : Int) ≤ 1 ∧ (1 : Int) < 2 ∧ 1 < ((((List.replicate 2 0).set 0 r4.1).set 1 r5.1).length : Int))) = true then
                 if (decide (r5.2.1 < (a0.length : Int))) = true then
                  some ((ByteArray.empty, ByteArray.empty, 0, 0), 3)
                 else
                  (label_Valid d ((((((List.replicate 3 ByteArray.empty).set 0 r1.1).set 1 r2.1).set 2 r3.1).getD 1 ByteArray.empty), (((((List.replicate 3 ByteArray.empty).set 0 r1.1).set 1 r2.1).set 2 r3.1).getD 2 ByteArray.empty), ((((List.replicate 2 0).set 0 r4.1).set 1 r5.1).getD 0 0), ((((List.replicate 2 0).set 0 r4.1).set 1 r5.1).getD 1 0))).bind fun r6 =>
                  if (!r6) = true then
                   some ((ByteArray.empty, ByteArray.empty, 0, 0), 8)
                  else
                   some (((((((List.replicate 3 ByteArray.empty).set 0 r1.1).set 1 r2.1).set 2 r3.1).getD 1 ByteArray.empty), (((((List.replicate 3 ByteArray.empty).set 0 r1.1).set 1 r2.1).set 2 r3.1).getD 2 ByteArray.empty), ((((List.replicate 2 0).set 0 r4.1).set 1 r5.1).getD 0 0), ((((List.replicate 2 0).set 0 r4.1).set 1 r5.1).getD 1 0)), 0)
                else none
               else none
              else none
             else none
            else none
          else none
        else none
      else none
    else none
def label_same (d : Nat) (a0 : Bool × Bool × List Int) (a1 : Bool × Bool × List Int) : Option Bool :=
  if (decide (a0.1 = a1.1)) = true then
   if (decide (a0.2.1 = a1.2.1)) = true then
    some (decide ((strOf a0.2.2) = (strOf a1.2.2)))
   else
    some false
  else
   some false
def label_Parse_l0 (d : Nat) : Nat → (List (Bool × Bool × List Int)) → Int → Int → (ByteArray × ByteArray × Int × Int) → (ByteArray × ByteArray × Int × Int) → (List (Bool × Bool × List Int)) → Option (((ByteArray × ByteArray × Int × Int) × (ByteArray × ByteArray × Int × Int) × (List (Bool × Bool × List Int))) ⊕ ((ByteArray × ByteArray × Int × Int) × Int × Int))
  | 0, _, _, _, _, _, _ => none
  | k + 1, t0, t48, t49, h2, h8, h1000608 =>
    if (decide (t49 < t48)) = true then
     if (decide ((0 : Int) ≤ t49 ∧ t49 < (h1000608.length : Int))) = true then
      if (decide ((0 : Int) ≤ t49 ∧ t49 < (t0.length : Int))) = true then
       (label_same d (h1000608.getD t49.toNat zBlock) (t0.getD t49.toNat zBlock)).bind fun r7 =>
       if (!r7) = true then
        some (.inr ((ByteArray.empty, ByteArray.empty, 0, 0), 0, 24))
       else
        label_Parse_l0 d k t0 t48 (IntKind.i64.wrap (t49 + 1)) h2 h8 h1000608
      else none
     else none
    else
     some (.inl (h2, h8, h1000608))
def label_Parse (d : Nat) (a0 : List (Bool × Bool × List Int)) : Option ((ByteArray × ByteArray × Int × Int) × Int × Int) :=
  (label_damaged d a0).bind fun r1 =>
  if r1 = true then
   some ((ByteArray.empty, ByteArray.empty, 0, 0), 0, 15)
  else
   (label_Bytes d a0).bind fun r2 =>
   (frame_Next d r2 0).bind fun r3 =>
   if (!decide (r3.2.2 = 0)) = true then
    some ((ByteArray.empty, ByteArray.empty, 0, 0), 0, r3.2.2)
   else
    (label_fields d r3.1).bind fun r4 =>
    if (!decide (r4.2 = 0)) = true then
     some ((ByteArray.empty, ByteArray.empty, 0, 0), 0, r4.2)
    else
     (label_Blocks d r4.1).bind fun r5 =>
     if (decide ((a0.length : Int) < (r5.1.length : Int))) = true then
      some ((ByteArray.empty, ByteArray.empty, 0, 0), 0, 24)
     else
      (label_Parse_l0 d d a0 (r5.1.length : Int) 0 (ByteArray.empty, ByteArray.empty, 0, 0) r4.1 r5.1).bind fun y8 => match y8 with
      | .inl y8 =>
       some (y8.2.1, (y8.2.2.length : Int), 0)
      | .inr r9 =>
       some r9
def tapearchivelaw14_lives (d : Nat) : Option Bool :=
  (label_Blocks d (⟨#[65, 49]⟩, ⟨#[112]⟩, 1, 0)).bind fun r1 =>
  (label_Parse d r1.1).bind fun r2 =>
  (label_Parse d []).bind fun r3 =>
  (label_Name d ⟨#[97, 45, 49]⟩).bind fun r4 =>
  if r4 = true then
   (label_Name d ⟨#[49, 97]⟩).bind fun r5 =>
   if (!r5) = true then
    if (decide (r1.2 = 0)) = true then
     if (decide ((r1.1.length : Int) = 2)) = true then
      if (decide ((0 : Int) ≤ 1 ∧ 1 < (r1.1.length : Int))) = true then
       if (r1.1.getD 1 zBlock).1 = true then
        if (decide ((0 : Int) ≤ 0 ∧ 0 < (r1.1.length : Int))) = true then
         if (decide (((r1.1.getD 0 zBlock).2.2.length : Int) = 64)) = true then
          if (decide (r2.2.2 = 0)) = true then
           if ((decide (r2.1.1 = ⟨#[65, 49]⟩)) && ((decide (r2.1.2.1 = ⟨#[112]⟩)) && ((decide (r2.1.2.2.1 = 1)) && (decide (r2.1.2.2.2 = 0))))) = true then
            if (decide (r2.2.1 = 2)) = true then
             if (decide (r3.2.2 = 2)) = true then
              if (decide (0 ≤ (65 : Int) ∧ (65 : Int) ≤ (65 : Int) ∧ (1 : Int) * (65 : Int) ≤ 281474976710656 ∧ (65 : Int) ≤ 9223372036854775807)) = true then
               (label_Divide d (List.replicate 65 0)).bind fun r6 =>
               some (decide ((r6.length : Int) = 2))
              else none
             else
              some false
            else
             some false
           else
            some false
          else
           some false
         else
          some false
        else none
       else
        some false
      else none
     else
      some false
    else
     some false
   else
    some false
  else
   some false
def tapearchiveref14_Name_l0 (d : Nat) : Nat → ByteArray → Int → Option (Unit ⊕ Bool)
  | 0, _, _ => none
  | k + 1, t0, t3 =>
    if (decide (t3 < (t0.size : Int))) = true then
     if (decide ((0 : Int) ≤ t3 ∧ t3 < (ByteArray.size t0 : Int))) = true then
      if (decide ((((ByteArray.data t0).getD t3.toNat 0).toNat : Int) ≥ 97)) = true then
       if (decide ((((ByteArray.data t0).getD t3.toNat 0).toNat : Int) ≤ 122)) = true then
        tapearchiveref14_Name_l0 d k t0 (IntKind.i64.wrap (t3 + 1))
       else
        if (decide ((((ByteArray.data t0).getD t3.toNat 0).toNat : Int) ≥ 48)) = true then
         if (decide ((((ByteArray.data t0).getD t3.toNat 0).toNat : Int) ≤ 57)) = true then
          tapearchiveref14_Name_l0 d k t0 (IntKind.i64.wrap (t3 + 1))
         else
          if (!(decide ((((ByteArray.data t0).getD t3.toNat 0).toNat : Int) = 45))) = true then
           some (.inr false)
          else
           tapearchiveref14_Name_l0 d k t0 (IntKind.i64.wrap (t3 + 1))
        else
         if (!(decide ((((ByteArray.data t0).getD t3.toNat 0).toNat : Int) = 45))) = true then
          some (.inr false)
         else
          tapearchiveref14_Name_l0 d k t0 (IntKind.i64.wrap (t3 + 1))
      else
       if (decide ((((ByteArray.data t0).getD t3.toNat 0).toNat : Int) ≥ 48)) = true then
        if (decide ((((ByteArray.data t0).getD t3.toNat 0).toNat : Int) ≤ 57)) = true then
         tapearchiveref14_Name_l0 d k t0 (IntKind.i64.wrap (t3 + 1))
        else
         if (!(decide ((((ByteArray.data t0).getD t3.toNat 0).toNat : Int) = 45))) = true then
          some (.inr false)
         else
          tapearchiveref14_Name_l0 d k t0 (IntKind.i64.wrap (t3 + 1))
       else
        if (!(decide ((((ByteArray.data t0).getD t3.toNat 0).toNat : Int) = 45))) = true then
         some (.inr false)
        else
         tapearchiveref14_Name_l0 d k t0 (IntKind.i64.wrap (t3 + 1))
     else none
    else
     some (.inl ())
def tapearchiveref14_Name (d : Nat) (a0 : ByteArray) : Option Bool :=
  (show Option (ByteArray ⊕ Bool) from
   if (decide ((a0.size : Int) < 1)) = true then
    some (.inr false)
   else
    if (decide ((a0.size : Int) > 24)) = true then
     some (.inr false)
    else
     if (decide ((0 : Int) ≤ 0 ∧ 0 < (ByteArray.size a0 : Int))) = true then
      if (decide ((((ByteArray.data a0).getD 0 0).toNat : Int) < 97)) = true then
       some (.inr false)
      else
       if (decide ((0 : Int) ≤ 0 ∧ 0 < (ByteArray.size a0 : Int))) = true then
        if (decide ((((ByteArray.data a0).getD 0 0).toNat : Int) > 122)) = true then
         some (.inr false)
        else
         some (.inl a0)
       else none
     else none).bind fun y2 => match y2 with
  | .inl y2 =>
   (tapearchiveref14_Name_l0 d d y2 0).bind fun y4 => match y4 with
   | .inl y4 =>
    some true
   | .inr r5 =>
    some r5
  | .inr x => some x
def tapearchiveref14_Barcode_l0 (d : Nat) : Nat → ByteArray → Int → Option (Unit ⊕ Bool)
  | 0, _, _ => none
  | k + 1, t0, t3 =>
    if (decide (t3 < (t0.size : Int))) = true then
     if (decide ((0 : Int) ≤ t3 ∧ t3 < (ByteArray.size t0 : Int))) = true then
      if (decide ((((ByteArray.data t0).getD t3.toNat 0).toNat : Int) ≥ 65)) = true then
       if (decide ((((ByteArray.data t0).getD t3.toNat 0).toNat : Int) ≤ 90)) = true then
        tapearchiveref14_Barcode_l0 d k t0 (IntKind.i64.wrap (t3 + 1))
       else
        if (decide ((((ByteArray.data t0).getD t3.toNat 0).toNat : Int) ≥ 48)) = true then
         if (!(decide ((((ByteArray.data t0).getD t3.toNat 0).toNat : Int) ≤ 57))) = true then
          some (.inr false)
         else
          tapearchiveref14_Barcode_l0 d k t0 (IntKind.i64.wrap (t3 + 1))
        else
         some (.inr false)
      else
       if (decide ((((ByteArray.data t0).getD t3.toNat 0).toNat : Int) ≥ 48)) = true then
        if (!(decide ((((ByteArray.data t0).getD t3.toNat 0).toNat : Int) ≤ 57))) = true then
         some (.inr false)
        else
         tapearchiveref14_Barcode_l0 d k t0 (IntKind.i64.wrap (t3 + 1))
       else
        some (.inr false)
     else none
    else
     some (.inl ())
def tapearchiveref14_Barcode (d : Nat) (a0 : ByteArray) : Option Bool :=
  (show Option (ByteArray ⊕ Bool) from
   if (decide ((a0.size : Int) < 1)) = true then
    some (.inr false)
   else
    if (decide ((a0.size : Int) > 24)) = true then
     some (.inr false)
    else
     some (.inl a0)).bind fun y2 => match y2 with
  | .inl y2 =>
   (tapearchiveref14_Barcode_l0 d d y2 0).bind fun y4 => match y4 with
   | .inl y4 =>
    some true
   | .inr r5 =>
    some r5
  | .inr x => some x
def tapearchiveref14_Valid (d : Nat) (a0 : ByteArray × ByteArray × Int × Int) : Option Bool :=
  (tapearchiveref14_Barcode d a0.1).bind fun r1 =>
  if r1 = true then
   (tapearchiveref14_Name d a0.2.1).bind fun r2 =>
   if r2 = true then
    if (decide (a0.2.2.1 ≥ 0)) = true then
     if (decide (a0.2.2.1 ≤ 1125899906842624)) = true then
      if (decide (a0.2.2.2 ≥ 0)) = true then
       some (decide (a0.2.2.2 < 1099511627776))
      else
       some false
     else
      some false
    else
     some false
   else
    some false
  else
   some false
def tapearchiveref02_PutUint_l0 (d : Nat) : Nat → Int → (List Int) → Option (Int × (List Int))
  | 0, _, _ => none
  | k + 1, t1, h6 =>
    if (decide (t1 ≥ 128)) = true then
     if (decide ((h6.length + ([(IntKind.u8.wrap ((IntKind.u8.wrap ((Int.tmod t1 128))) + 128))] : List Int).length) * 1 ≤ 140737488355328)) = true then
      tapearchiveref02_PutUint_l0 d k (IntKind.u64.wrap (Int.tdiv t1 128)) (h6 ++ [(IntKind.u8.wrap ((IntKind.u8.wrap ((Int.tmod t1 128))) + 128))])
     else none
    else
     some (t1, h6)
def tapearchiveref02_PutUint (d : Nat) (a0 : List Int) (a1 : Int) : Option ((List Int)) :=
  if (decide ((0 + a0.length) * 1 ≤ 140737488355328)) = true then
   (tapearchiveref02_PutUint_l0 d d a1 ([] ++ a0)).bind fun y2 =>
   if (decide ((y2.2.length + ([(IntKind.u8.wrap (y2.1))] : List Int).length) * 1 ≤ 140737488355328)) = true then
    some (y2.2 ++ [(IntKind.u8.wrap (y2.1))])
   else none
  else none
def tapearchiveref02_PutText (d : Nat) (a0 : List Int) (a1 : ByteArray) : Option ((List Int)) :=
  (tapearchiveref02_PutUint d a0 (IntKind.u64.wrap ((a1.size : Int)))).bind fun r1 =>
  if (decide ((r1.length + (bytesOf a1).length) * 1 ≤ 140737488355328)) = true then
   some (r1 ++ (bytesOf a1))
  else none
def tapearchiveref02_Code (d : Nat) (a0 : Int) : Option Int :=
  if (decide (a0 < 0)) = true then
   some (IntKind.u64.wrap ((IntKind.u64.wrap (2 * (IntKind.u64.wrap ((IntKind.i64.wrap (0 - (IntKind.i64.wrap (a0 + 1)))))))) + 1))
  else
   some (IntKind.u64.wrap (2 * (IntKind.u64.wrap (a0))))
def tapearchiveref02_PutInt (d : Nat) (a0 : List Int) (a1 : Int) : Option ((List Int)) :=
  (tapearchiveref02_Code d a1).bind fun r1 =>
  (tapearchiveref02_PutUint d a0 r1).bind fun r2 =>
  some r2
def tapearchiveref03_four (d : Nat) (a0 : Int) : Option ((List Int)) :=
  some [(IntKind.u8.wrap ((IntKind.i64.wrap (Int.tdiv a0 16777216)))), (IntKind.u8.wrap ((Int.tmod (IntKind.i64.wrap (Int.tdiv a0 65536)) 256))), (IntKind.u8.wrap ((Int.tmod (IntKind.i64.wrap (Int.tdiv a0 256)) 256))), (IntKind.u8.wrap ((Int.tmod a0 256)))]
def tapearchiveref01_step (d : Nat) (a0 : Int) : Option Int :=
  if (decide ((Int.tmod a0 2) = 1)) = true then
   some (IntKind.u32.wrap (BitVec.ofInt 32 (Int.fdiv a0 (2 ^ (min 1 32))) ^^^ BitVec.ofInt 32 2197175160).toNat)
  else
   some (Int.fdiv a0 (2 ^ (min 1 32)))
def tapearchiveref01_after_l0 (d : Nat) : Nat → Int → Int → Option Int
  | 0, _, _ => none
  | k + 1, t0, t5 =>
    if (decide (t5 < 8)) = true then
     (tapearchiveref01_step d t0).bind fun r2 =>
     tapearchiveref01_after_l0 d k r2 (IntKind.i64.wrap (t5 + 1))
    else
     some t0
def tapearchiveref01_after (d : Nat) (a0 : Int) (a1 : Int) : Option Int :=
  (tapearchiveref01_after_l0 d d (IntKind.u32.wrap (BitVec.ofInt 32 a0 ^^^ BitVec.ofInt 32 (IntKind.u32.wrap (a1))).toNat) 0).bind fun y3 =>
  some y3
def tapearchiveref01_Update_l0 (d : Nat) : Nat → (List Int) → Int → Int → Option Int
  | 0, _, _, _ => none
  | k + 1, t1, t5, t6 =>
    if (decide (t6 < (t1.length : Int))) = true then
     if (decide ((0 : Int) ≤ t6 ∧ t6 < (t1.length : Int))) = true then
      (tapearchiveref01_after d t5 (t1.getD t6.toNat 0)).bind fun r2 =>
      tapearchiveref01_Update_l0 d k t1 r2 (IntKind.i64.wrap (t6 + 1))
     else none
    else
     some t5
def tapearchiveref01_Update (d : Nat) (a0 : Int) (a1 : List Int) : Option Int :=
  (tapearchiveref01_Update_l0 d d a1 (IntKind.u32.wrap (BitVec.ofInt 32 4294967295 ^^^ BitVec.ofInt 32 a0).toNat) 0).bind fun y3 =>
  some (IntKind.u32.wrap (BitVec.ofInt 32 4294967295 ^^^ BitVec.ofInt 32 y3).toNat)
def tapearchiveref01_Sum (d : Nat) (a0 : List Int) : Option Int :=
  (tapearchiveref01_Update d 0 a0).bind fun r1 =>
  some r1
def tapearchiveref03_sum (d : Nat) (a0 : List Int) : Option ((List Int)) :=
  (tapearchiveref03_four d (a0.length : Int)).bind fun r1 =>
  if (decide ((r1.length + a0.length) * 1 ≤ 140737488355328)) = true then
   (tapearchiveref01_Sum d (r1 ++ a0)).bind fun r2 =>
   (tapearchiveref03_four d (IntKind.i64.wrap (r2))).bind fun r3 =>
   some r3
  else none
def tapearchiveref03_Append (d : Nat) (a0 : List Int) (a1 : List Int) : Option ((List Int) × Int) :=
  if (decide ((a1.length : Int) > 65536)) = true then
   some ([], 6)
  else
   if (decide (a0.length * 1 ≤ 140737488355328)) = true then
    if (decide ((a0.length + ([167, 60] : List Int).length) * 1 ≤ 140737488355328)) = true then
     (tapearchiveref03_four d (a1.length : Int)).bind fun r1 =>
     if (decide (((a0 ++ [167, 60]).length + r1.length) * 1 ≤ 140737488355328)) = true then
      (tapearchiveref03_sum d a1).bind fun r2 =>
      if (decide ((((a0 ++ [167, 60]) ++ r1).length + r2.length) * 1 ≤ 140737488355328)) = true then
       if (decide (((((a0 ++ [167, 60]) ++ r1) ++ r2).length + a1.length) * 1 ≤ 140737488355328)) = true then
        some (((((a0 ++ [167, 60]) ++ r1) ++ r2) ++ a1), 0)
       else none
      else none
     else none
    else none
   else none
def tapearchiveref14_Divide_l0 (d : Nat) : Nat → (List Int) → Int → (List (Bool × Bool × List Int)) → Option ((List (Bool × Bool × List Int)))
  | 0, _, _, _ => none
  | k + 1, t0, t4, h6 =>
    if (decide (t4 < (t0.length : Int))) = true then
     if (decide (0 ≤ (64 : Int) ∧ (64 : Int) ≤ (64 : Int) ∧ (1 : Int) * (64 : Int) ≤ 281474976710656 ∧ (64 : Int) ≤ 9223372036854775807)) = true then
      if (decide (0 ≤ t4 ∧ t4 ≤ (t0.length : Int) ∧ (t0.length : Int) ≤ (t0.length : Int))) = true then
       if (decide ((h6.length + ([(false, false, (cpy (List.replicate 64 0) ((t0.take (t0.length : Int).toNat).drop t4.toNat) 0 (List.replicate 64 0).length))] : List (Bool × Bool × List Int)).length) * 32 ≤ 140737488355328)) = true then
        tapearchiveref14_Divide_l0 d k t0 (IntKind.i64.wrap (t4 + 64)) (h6 ++ [(false, false, (cpy (List.replicate 64 0) ((t0.take (t0.length : Int).toNat).drop t4.toNat) 0 (List.replicate 64 0).length))])
       else none
      else none
     else none
    else
     some h6
def tapearchiveref14_Divide (d : Nat) (a0 : List Int) : Option ((List (Bool × Bool × List Int))) :=
  (tapearchiveref14_Divide_l0 d d a0 0 []).bind fun y3 =>
  some y3
def tapearchiveref14_Blocks (d : Nat) (a0 : ByteArray × ByteArray × Int × Int) : Option ((List (Bool × Bool × List Int)) × Int) :=
  (tapearchiveref14_Valid d a0).bind fun r1 =>
  if (!r1) = true then
   some ([], 8)
  else
   (tapearchiveref02_PutText d [] ⟨#[118, 111, 108, 117, 109, 101]⟩).bind fun r2 =>
   (tapearchiveref02_PutText d r2 a0.1).bind fun r3 =>
   (tapearchiveref02_PutText d r3 a0.2.1).bind fun r4 =>
   (tapearchiveref02_PutInt d r4 a0.2.2.1).bind fun r5 =>
   (tapearchiveref02_PutInt d r5 a0.2.2.2).bind fun r6 =>
   (tapearchiveref03_Append d [] r6).bind fun r7 =>
   if (!decide (r7.2 = 0)) = true then
    some ([], r7.2)
   else
    (tapearchiveref14_Divide d r7.1).bind fun r8 =>
    if (decide ((r8.length + ([(true, false, [])] : List (Bool × Bool × List Int)).length) * 32 ≤ 140737488355328)) = true then
     some ((r8 ++ [(true, false, [])]), 0)
    else none
def tapearchiveref14_Same_l0 (d : Nat) : Nat → (List (Bool × Bool × List Int)) → (List (Bool × Bool × List Int)) → Int → Option (Unit ⊕ Bool)
  | 0, _, _, _ => none
  | k + 1, t0, t1, t5 =>
    if (decide (t5 < (t0.length : Int))) = true then
     if (decide ((0 : Int) ≤ t5 ∧ t5 < (t0.length : Int))) = true then
      if (decide ((0 : Int) ≤ t5 ∧ t5 < (t1.length : Int))) = true then
       if (!decide ((t0.getD t5.toNat zBlock).1 = (t1.getD t5.toNat zBlock).1)) = true then
        some (.inr false)
       else
        if (decide ((0 : Int) ≤ t5 ∧ t5 < (t0.length : Int))) = true then
         if (decide ((0 : Int) ≤ t5 ∧ t5 < (t1.length : Int))) = true then
          if (!decide ((t0.getD t5.toNat zBlock).2.1 = (t1.getD t5.toNat zBlock).2.1)) = true then
           some (.inr false)
          else
           if (decide ((0 : Int) ≤ t5 ∧ t5 < (t0.length : Int))) = true then
            if (decide ((0 : Int) ≤ t5 ∧ t5 < (t1.length : Int))) = true then
             if (!decide ((strOf (t0.getD t5.toNat zBlock).2.2) = (strOf (t1.getD t5.toNat zBlock).2.2))) = true then
              some (.inr false)
             else
              tapearchiveref14_Same_l0 d k t0 t1 (IntKind.i64.wrap (t5 + 1))
            else none
           else none
         else none
        else none
      else none
     else none
    else
     some (.inl ())
def tapearchiveref14_Same (d : Nat) (a0 : List (Bool × Bool × List Int)) (a1 : List (Bool × Bool × List Int)) : Option Bool :=
  if (!decide ((a0.length : Int) = (a1.length : Int))) = true then
   some false
  else
   (tapearchiveref14_Same_l0 d d a0 a1 0).bind fun y2 => match y2 with
   | .inl y2 =>
    some true
   | .inr r3 =>
    some r3
def tapearchivelaw14_LabelBlocks (d : Nat) (a0 : ByteArray × ByteArray × Int × Int) (a1 : ByteArray) : Option Bool :=
  (tapearchivelaw14_lives d).bind fun r1 =>
  if (!r1) = true then
   some false
  else
   (show Option ((ByteArray × (ByteArray × ByteArray × Int × Int)) ⊕ Bool) from
    if (decide ((a1.size : Int) > 1024)) = true then
     some (.inr true)
    else
     if (decide ((IntKind.i64.wrap ((a0.1.size : Int) + (a0.2.1.size : Int))) > 1024)) = true then
      some (.inr true)
     else
      some (.inl (a1, a0))).bind fun y3 => match y3 with
   | .inl y3 =>
    (label_Blocks d y3.2).bind fun r4 =>
    (tapearchiveref14_Blocks d y3.2).bind fun r5 =>
    if (decide (r4.2 = r5.2)) = true then
     (tapearchiveref14_Same d r4.1 r5.1).bind fun r6 =>
     if r6 = true then
      (label_Valid d y3.2).bind fun r7 =>
      (tapearchiveref14_Valid d y3.2).bind fun r8 =>
      if (decide (r7 = r8)) = true then
       (label_Name d y3.1).bind fun r9 =>
       (tapearchiveref14_Name d y3.1).bind fun r10 =>
       some (decide (r9 = r10))
      else
       some false
     else
      some false
    else
     some false
   | .inr x => some x
def tapearchivelaw14_few_l0 (d : Nat) : Nat → (List (Bool × Bool × List Int)) → Int → Option (Unit ⊕ Bool)
  | 0, _, _ => none
  | k + 1, t0, t3 =>
    if (decide (t3 < (t0.length : Int))) = true then
     if (decide ((0 : Int) ≤ t3 ∧ t3 < (t0.length : Int))) = true then
      if (decide (((t0.getD t3.toNat zBlock).2.2.length : Int) > 200)) = true then
       some (.inr false)
      else
       tapearchivelaw14_few_l0 d k t0 (IntKind.i64.wrap (t3 + 1))
     else none
    else
     some (.inl ())
def tapearchivelaw14_few (d : Nat) (a0 : List (Bool × Bool × List Int)) : Option Bool :=
  if (decide ((a0.length : Int) > 60)) = true then
   some false
  else
   (tapearchivelaw14_few_l0 d d a0 0).bind fun y2 => match y2 with
   | .inl y2 =>
    some true
   | .inr r3 =>
    some r3
def tapearchiveref14_Bytes_l0 (d : Nat) : Nat → (List (Bool × Bool × List Int)) → Int → (List Int) → Option ((List Int))
  | 0, _, _, _ => none
  | k + 1, t0, t4, h5 =>
    (show Option (((List (Bool × Bool × List Int)) × Int × (List Int)) ⊕ ((List Int))) from
     if (decide (t4 < (t0.length : Int))) = true then
      if (decide ((0 : Int) ≤ t4 ∧ t4 < (t0.length : Int))) = true then
       if (!(t0.getD t4.toNat zBlock).1) = true then
        if (decide ((0 : Int) ≤ t4 ∧ t4 < (t0.length : Int))) = true then
         if (!(t0.getD t4.toNat zBlock).2.1) = true then
          some (.inl (t0, t4, h5))
         else
          some (.inr h5)
        else none
       else
        some (.inr h5)
      else none
     else
      Option.map Sum.inr (
      some h5)).bind fun y6 => match y6 with
    | .inl y6 =>
     if (decide ((0 : Int) ≤ y6.2.1 ∧ y6.2.1 < (y6.1.length : Int))) = true then
      if (decide ((y6.2.2.length + (y6.1.getD y6.2.1.toNat zBlock).2.2.length) * 1 ≤ 140737488355328)) = true then
       tapearchiveref14_Bytes_l0 d k y6.1 (IntKind.i64.wrap (y6.2.1 + 1)) (y6.2.2 ++ (y6.1.getD y6.2.1.toNat zBlock).2.2)
      else none
     else none
    | .inr x => some x
def tapearchiveref14_Bytes (d : Nat) (a0 : List (Bool × Bool × List Int)) : Option ((List Int)) :=
  (tapearchiveref14_Bytes_l0 d d a0 0 []).bind fun y7 =>
  some y7
def tapearchiveref03_number_l0 (d : Nat) : Nat → (List Int) → Int → Int → Option Int
  | 0, _, _, _ => none
  | k + 1, t0, t3, t4 =>
    if (decide (t4 < 4)) = true then
     if (decide ((0 : Int) ≤ t4 ∧ t4 < (t0.length : Int))) = true then
      tapearchiveref03_number_l0 d k t0 (IntKind.i64.wrap ((IntKind.i64.wrap (t3 * 256)) + (IntKind.i64.wrap ((t0.getD t4.toNat 0))))) (IntKind.i64.wrap (t4 + 1))
     else none
    else
     some t3
def tapearchiveref03_number (d : Nat) (a0 : List Int) : Option Int :=
  (tapearchiveref03_number_l0 d d a0 0 0).bind fun y2 =>
  some y2
def tapearchiveref03_Next (d : Nat) (a0 : List Int) (a1 : Int) : Option ((List Int) × Int × Int) :=
  (show Option (((List Int) × Int) ⊕ ((List Int) × Int × Int)) from
   if (decide (a1 < 0)) = true then
    some (.inr ([], 0, 7))
   else
    if (decide (a1 > (a0.length : Int))) = true then
     some (.inr ([], 0, 7))
    else
     some (.inl (a0, a1))).bind fun y2 => match y2 with
  | .inl y2 =>
   if (decide (0 ≤ y2.2 ∧ y2.2 ≤ (y2.1.length : Int) ∧ (y2.1.length : Int) ≤ (y2.1.length : Int))) = true then
    if (decide ((((y2.1.take (y2.1.length : Int).toNat).drop y2.2.toNat).length : Int) < 10)) = true then
     some ([], 0, 2)
    else
     (show Option ((Int × (List Int)) ⊕ ((List Int) × Int × Int)) from
      if (decide ((0 : Int) ≤ 0 ∧ 0 < (((y2.1.take (y2.1.length : Int).toNat).drop y2.2.toNat).length : Int))) = true then
       if (!decide ((((y2.1.take (y2.1.length : Int).toNat).drop y2.2.toNat).getD 0 0) = 167)) = true then
        some (.inr ([], 0, 1))
       else
        if (decide ((0 : Int) ≤ 1 ∧ 1 < (((y2.1.take (y2.1.length : Int).toNat).drop y2.2.toNat).length : Int))) = true then
         if (!decide ((((y2.1.take (y2.1.length : Int).toNat).drop y2.2.toNat).getD 1 0) = 60)) = true then
          some (.inr ([], 0, 1))
         else
          some (.inl (y2.2, ((y2.1.take (y2.1.length : Int).toNat).drop y2.2.toNat)))
        else none
      else none).bind fun y4 => match y4 with
     | .inl y4 =>
      if (decide (0 ≤ (2 : Int) ∧ (2 : Int) ≤ (y4.2.length : Int) ∧ (y4.2.length : Int) ≤ (y4.2.length : Int))) = true then
       (tapearchiveref03_number d ((y4.2.take (y4.2.length : Int).toNat).drop 2)).bind fun r5 =>
       if (decide (r5 > 65536)) = true then
        some ([], 0, 6)
       else
        if (decide ((y4.2.length : Int) < (IntKind.i64.wrap (r5 + 10)))) = true then
         some ([], 0, 2)
        else
         if (decide (0 ≤ (10 : Int) ∧ (10 : Int) ≤ (IntKind.i64.wrap (r5 + 10)) ∧ (IntKind.i64.wrap (r5 + 10)) ≤ (y4.2.length : Int))) = true then
          if (decide (((y4.2.take (IntKind.i64.wrap (r5 + 10)).toNat).drop 10).length * 1 ≤ 140737488355328)) = true then
           (tapearchiveref03_sum d ((y4.2.take (IntKind.i64.wrap (r5 + 10)).toNat).drop 10)).bind fun r6 =>
           if (decide (0 ≤ (6 : Int) ∧ (6 : Int) ≤ (10 : Int) ∧ (10 : Int) ≤ (y4.2.length : Int))) = true then
            if (!decide ((strOf r6) = (strOf ((y4.2.take 10).drop 6)))) = true then
             some ([], 0, 4)
            else
             some (((y4.2.take (IntKind.i64.wrap (r5 + 10)).toNat).drop 10), (IntKind.i64.wrap ((IntKind.i64.wrap (y4.1 + r5)) + 10)), 0)
           else none
          else none
         else none
      else none
     | .inr x => some x
   else none
  | .inr x => some x
def tapearchiveref02_Uint_l0 (d : Nat) : Nat → (List Int) → Int → Int → Int → Int → Option (Unit ⊕ (Int × Int × Int))
  | 0, _, _, _, _, _ => none
  | k + 1, t0, t1, t7, t8, t9 =>
    if (decide (t9 < 10)) = true then
     if (decide ((IntKind.i64.wrap (t1 + t9)) ≥ (t0.length : Int))) = true then
      some (.inr (0, 0, 2))
     else
      if (decide ((0 : Int) ≤ (IntKind.i64.wrap (t1 + t9)) ∧ (IntKind.i64.wrap (t1 + t9)) < (t0.length : Int))) = true then
       if (decide ((t0.getD (IntKind.i64.wrap (t1 + t9)).toNat 0) ≥ 128)) = true then
        tapearchiveref02_Uint_l0 d k t0 t1 (IntKind.u64.wrap (t7 + (IntKind.u64.wrap ((IntKind.u64.wrap ((IntKind.u8.wrap ((t0.getD (IntKind.i64.wrap (t1 + t9)).toNat 0) - 128)))) * t8)))) (IntKind.u64.wrap (t8 * 128)) (IntKind.i64.wrap (t9 + 1))
       else
        (show Option ((Int × Int × Int × Int × Int) ⊕ (Unit ⊕ (Int × Int × Int))) from
         if (decide (t9 = 9)) = true then
          if (decide ((t0.getD (IntKind.i64.wrap (t1 + t9)).toNat 0) > 1)) = true then
           some (.inr (.inr (0, 0, 6)))
          else
           some (.inl (t1, t7, t8, t9, (t0.getD (IntKind.i64.wrap (t1 + t9)).toNat 0)))
         else
          some (.inl (t1, t7, t8, t9, (t0.getD (IntKind.i64.wrap (t1 + t9)).toNat 0)))).bind fun y5 => match y5 with
        | .inl y5 =>
         (show Option ((Int × Int × Int × Int × Int) ⊕ (Unit ⊕ (Int × Int × Int))) from
          if (decide (y5.2.2.2.1 > 0)) = true then
           if (decide (y5.2.2.2.2 = 0)) = true then
            some (.inr (.inr (0, 0, 1)))
           else
            some (.inl (y5.1, y5.2.1, y5.2.2.1, y5.2.2.2.1, y5.2.2.2.2))
          else
           some (.inl (y5.1, y5.2.1, y5.2.2.1, y5.2.2.2.1, y5.2.2.2.2))).bind fun y7 => match y7 with
         | .inl y7 =>
          some (.inr ((IntKind.u64.wrap (y7.2.1 + (IntKind.u64.wrap ((IntKind.u64.wrap (y7.2.2.2.2)) * y7.2.2.1)))), (IntKind.i64.wrap ((IntKind.i64.wrap (y7.1 + y7.2.2.2.1)) + 1)), 0))
         | .inr x => some x
        | .inr x => some x
      else none
    else
     some (.inl ())
def tapearchiveref02_Uint (d : Nat) (a0 : List Int) (a1 : Int) : Option (Int × Int × Int) :=
  (show Option (((List Int) × Int) ⊕ (Int × Int × Int)) from
   if (decide (a1 < 0)) = true then
    some (.inr (0, 0, 7))
   else
    if (decide (a1 > (a0.length : Int))) = true then
     some (.inr (0, 0, 7))
    else
     some (.inl (a0, a1))).bind fun y2 => match y2 with
  | .inl y2 =>
   (tapearchiveref02_Uint_l0 d d y2.1 y2.2 0 1 0).bind fun y8 => match y8 with
   | .inl y8 =>
    some (0, 0, 6)
   | .inr r9 =>
    some r9
  | .inr x => some x
def tapearchiveref02_Text (d : Nat) (a0 : List Int) (a1 : Int) (a2 : Int) : Option (ByteArray × Int × Int) :=
  (tapearchiveref02_Uint d a0 a1).bind fun r1 =>
  if (!decide (r1.2.2 = 0)) = true then
   some (⟨#[]⟩, 0, r1.2.2)
  else
   (show Option (((List Int) × Int × Int) ⊕ (ByteArray × Int × Int)) from
    if (decide (a2 < 0)) = true then
     some (.inr (⟨#[]⟩, 0, 6))
    else
     if (decide (r1.1 > (IntKind.u64.wrap (a2)))) = true then
      some (.inr (⟨#[]⟩, 0, 6))
     else
      some (.inl (a0, r1.1, r1.2.1))).bind fun y3 => match y3 with
   | .inl y3 =>
    if (decide (y3.2.1 > (IntKind.u64.wrap ((IntKind.i64.wrap ((y3.1.length : Int) - y3.2.2)))))) = true then
     some (⟨#[]⟩, 0, 2)
    else
     if (decide (0 ≤ y3.2.2 ∧ y3.2.2 ≤ (IntKind.i64.wrap (y3.2.2 + (IntKind.i64.wrap (y3.2.1)))) ∧ (IntKind.i64.wrap (y3.2.2 + (IntKind.i64.wrap (y3.2.1)))) ≤ (y3.1.length : Int))) = true then
      some ((strOf ((y3.1.take (IntKind.i64.wrap (y3.2.2 + (IntKind.i64.wrap (y3.2.1)))).toNat).drop y3.2.2.toNat)), (IntKind.i64.wrap (y3.2.2 + (IntKind.i64.wrap (y3.2.1)))), 0)
     else none
   | .inr x => some x
def tapearchiveref02_Int (d : Nat) (a0 : List Int) (a1 : Int) : Option (Int × Int × Int) :=
  (tapearchiveref02_Uint d a0 a1).bind fun r1 =>
  if (!decide (r1.2.2 = 0)) = true then
   some (0, 0, r1.2.2)
  else
   if (decide ((Int.tmod r1.1 2) = 1)) = true then
    some ((IntKind.i64.wrap ((IntKind.i64.wrap (0 - (IntKind.i64.wrap ((IntKind.u64.wrap (Int.tdiv r1.1 2)))))) - 1)), r1.2.1, 0)
   else
    some ((IntKind.i64.wrap ((IntKind.u64.wrap (Int.tdiv r1.1 2)))), r1.2.1, 0)
def tapearchiveref14_fields (d : Nat) (a0 : List Int) : Option ((ByteArray × ByteArray × Int × Int) × Int) :=
  (tapearchiveref02_Text d a0 0 24).bind fun r1 =>
  if (!decide (r1.2.2 = 0)) = true then
   some ((ByteArray.empty, ByteArray.empty, 0, 0), r1.2.2)
  else
   if (!decide (r1.1 = ⟨#[118, 111, 108, 117, 109, 101]⟩)) = true then
    some ((ByteArray.empty, ByteArray.empty, 0, 0), 1)
   else
    (tapearchiveref02_Text d a0 r1.2.1 24).bind fun r2 =>
    if (!decide (r2.2.2 = 0)) = true then
     some ((ByteArray.empty, ByteArray.empty, 0, 0), r2.2.2)
    else
     (tapearchiveref02_Text d a0 r2.2.1 24).bind fun r3 =>
     if (!decide (r3.2.2 = 0)) = true then
      some ((ByteArray.empty, ByteArray.empty, 0, 0), r3.2.2)
     else
      (tapearchiveref02_Int d a0 r3.2.1).bind fun r4 =>
      if (!decide (r4.2.2 = 0)) = true then
       some ((ByteArray.empty, ByteArray.empty, 0, 0), r4.2.2)
      else
       (tapearchiveref02_Int d a0 r4.2.1).bind fun r5 =>
       if (!decide (r5.2.2 = 0)) = true then
        some ((ByteArray.empty, ByteArray.empty, 0, 0), r5.2.2)
       else
        if (decide (r5.2.1 < (a0.length : Int))) = true then
         some ((ByteArray.empty, ByteArray.empty, 0, 0), 3)
        else
         (tapearchiveref14_Valid d (r2.1, r3.1, r4.1, r5.1)).bind fun r6 =>
         if (!r6) = true then
          some ((ByteArray.empty, ByteArray.empty, 0, 0), 8)
         else
          some ((r2.1, r3.1, r4.1, r5.1), 0)
def tapearchiveref14_Parse_l0 (d : Nat) : Nat → (List (Bool × Bool × List Int)) → Int → (ByteArray × ByteArray × Int × Int) → Option (((List (Bool × Bool × List Int)) × (ByteArray × ByteArray × Int × Int)) ⊕ ((ByteArray × ByteArray × Int × Int) × Int × Int))
  | 0, _, _, _ => none
  | k + 1, t0, t5, h2 =>
    if (decide (t5 < (t0.length : Int))) = true then
     if (decide ((0 : Int) ≤ t5 ∧ t5 < (t0.length : Int))) = true then
      if (t0.getD t5.toNat zBlock).2.1 = true then
       some (.inr ((ByteArray.empty, ByteArray.empty, 0, 0), 0, 15))
      else
       if (decide ((0 : Int) ≤ t5 ∧ t5 < (t0.length : Int))) = true then
        if (t0.getD t5.toNat zBlock).1 = true then
         some (.inl (t0, h2))
        else
         tapearchiveref14_Parse_l0 d k t0 (IntKind.i64.wrap (t5 + 1)) h2
       else none
     else none
    else
     some (.inl (t0, h2))
def tapearchiveref14_Parse (d : Nat) (a0 : List (Bool × Bool × List Int)) : Option ((ByteArray × ByteArray × Int × Int) × Int × Int) :=
  (tapearchiveref14_Parse_l0 d d a0 0 (ByteArray.empty, ByteArray.empty, 0, 0)).bind fun y2 => match y2 with
  | .inl y2 =>
   (tapearchiveref14_Bytes d y2.1).bind fun r4 =>
   (tapearchiveref03_Next d r4 0).bind fun r5 =>
   if (!decide (r5.2.2 = 0)) = true then
    some ((ByteArray.empty, ByteArray.empty, 0, 0), 0, r5.2.2)
   else
    (tapearchiveref14_fields d r5.1).bind fun r6 =>
    if (!decide (r6.2 = 0)) = true then
     some ((ByteArray.empty, ByteArray.empty, 0, 0), 0, r6.2)
    else
     (tapearchiveref14_Blocks d r6.1).bind fun r7 =>
     (show Option (((List (Bool × Bool × List Int)) × (ByteArray × ByteArray × Int × Int) × (ByteArray × ByteArray × Int × Int)) ⊕ ((ByteArray × ByteArray × Int × Int) × Int × Int)) from
      if (decide ((y2.1.length : Int) < (r7.1.length : Int))) = true then
       some (.inr ((ByteArray.empty, ByteArray.empty, 0, 0), 0, 24))
      else
       if (decide (0 ≤ (0 : Int) ∧ (0 : Int) ≤ (r7.1.length : Int) ∧ (r7.1.length : Int) ≤ (y2.1.length : Int))) = true then
        (tapearchiveref14_Same d ((y2.1.take (r7.1.length : Int).toNat).drop 0) r7.1).bind fun r9 =>
        if (!r9) = true then
         some (.inr ((ByteArray.empty, ByteArray.empty, 0, 0), 0, 24))
        else
         some (.inl (r7.1, y2.2, r6.1))
       else none).bind fun y10 => match y10 with
     | .inl y10 =>
      some (y10.2.2, (y10.1.length : Int), 0)
     | .inr x => some x
  | .inr r3 =>
   some r3
def tapearchivelaw14_LabelParses (d : Nat) (a0 : List (Bool × Bool × List Int)) : Option Bool :=
  (tapearchivelaw14_lives d).bind fun r1 =>
  if (!r1) = true then
   some false
  else
   (tapearchivelaw14_few d a0).bind fun r2 =>
   if (!r2) = true then
    some true
   else
    (label_Parse d a0).bind fun r3 =>
    (tapearchiveref14_Parse d a0).bind fun r4 =>
    if ((decide (r3.1.1 = r4.1.1)) && ((decide (r3.1.2.1 = r4.1.2.1)) && ((decide (r3.1.2.2.1 = r4.1.2.2.1)) && (decide (r3.1.2.2.2 = r4.1.2.2.2))))) = true then
     if (decide (r3.2.1 = r4.2.1)) = true then
      if (decide (r3.2.2 = r4.2.2)) = true then
       (label_Bytes d a0).bind fun r5 =>
       (tapearchiveref14_Bytes d a0).bind fun r6 =>
       some (decide ((strOf r5) = (strOf r6)))
      else
       some false
     else
      some false
    else
     some false
def tapearchiveref14_Copied_l0 (d : Nat) : Nat → (List (Bool × Bool × List Int)) → Int → (List (Bool × Bool × List Int)) → Option ((List (Bool × Bool × List Int)))
  | 0, _, _, _ => none
  | k + 1, t0, t4, h5 =>
    if (decide (t4 < (t0.length : Int))) = true then
     if (decide ((0 : Int) ≤ t4 ∧ t4 < (t0.length : Int))) = true then
      if (decide ((0 : Int) ≤ t4 ∧ t4 < (t0.length : Int))) = true then
       if (decide ((0 : Int) ≤ t4 ∧ t4 < (t0.length : Int))) = true then
        if (decide ((0 + (t0.getD t4.toNat zBlock).2.2.length) * 1 ≤ 140737488355328)) = true then
         if (decide ((h5.length + ([((t0.getD t4.toNat zBlock).1, (t0.getD t4.toNat zBlock).2.1, ([] ++ (t0.getD t4.toNat zBlock).2.2))] : List (Bool × Bool × List Int)).length) * 32 ≤ 140737488355328)) = true then
          tapearchiveref14_Copied_l0 d k t0 (IntKind.i64.wrap (t4 + 1)) (h5 ++ [((t0.getD t4.toNat zBlock).1, (t0.getD t4.toNat zBlock).2.1, ([] ++ (t0.getD t4.toNat zBlock).2.2))])
         else none
        else none
       else none
      else none
     else none
    else
     some h5
def tapearchiveref14_Copied (d : Nat) (a0 : List (Bool × Bool × List Int)) : Option ((List (Bool × Bool × List Int))) :=
  (tapearchiveref14_Copied_l0 d d a0 0 []).bind fun y3 =>
  some y3
def tapearchivelaw14_LabelRoundTrip (d : Nat) (a0 : ByteArray × ByteArray × Int × Int) (a1 : List (Bool × Bool × List Int)) : Option Bool :=
  (tapearchivelaw14_lives d).bind fun r1 =>
  if (!r1) = true then
   some false
  else
   (show Option (((List (Bool × Bool × List Int)) × (ByteArray × ByteArray × Int × Int)) ⊕ Bool) from
    (tapearchivelaw14_few d a1).bind fun r3 =>
    if (!r3) = true then
     some (.inr true)
    else
     if (decide ((IntKind.i64.wrap ((a0.1.size : Int) + (a0.2.1.size : Int))) > 1024)) = true then
      some (.inr true)
     else
      some (.inl (a1, a0))).bind fun y4 => match y4 with
   | .inl y4 =>
    (label_Blocks d y4.2).bind fun r5 =>
    (label_Valid d y4.2).bind fun r6 =>
    if (!r6) = true then
     if (decide (r5.2 = 8)) = true then
      some (decide ((r5.1.length : Int) = 0))
     else
      some false
    else
     (show Option (((List (Bool × Bool × List Int)) × (ByteArray × ByteArray × Int × Int) × (List (Bool × Bool × List Int))) ⊕ Bool) from
      if (!decide (r5.2 = 0)) = true then
       some (.inr false)
      else
       if (decide ((r5.1.length : Int) < 2)) = true then
        some (.inr false)
       else
        if (decide ((0 : Int) ≤ (IntKind.i64.wrap ((r5.1.length : Int) - 1)) ∧ (IntKind.i64.wrap ((r5.1.length : Int) - 1)) < (r5.1.length : Int))) = true then
         if (!(r5.1.getD (IntKind.i64.wrap ((r5.1.length : Int) - 1)).toNat zBlock).1) = true then
          some (.inr false)
         else
          some (.inl (y4.1, y4.2, r5.1))
        else none).bind fun y8 => match y8 with
     | .inl y8 =>
      (tapearchiveref14_Copied d y8.2.2).bind fun r9 =>
      if (decide ((r9.length + y8.1.length) * 32 ≤ 140737488355328)) = true then
       (label_Parse d (r9 ++ y8.1)).bind fun r10 =>
       if (decide (r10.2.2 = 0)) = true then
        if ((decide (r10.1.1 = y8.2.1.1)) && ((decide (r10.1.2.1 = y8.2.1.2.1)) && ((decide (r10.1.2.2.1 = y8.2.1.2.2.1)) && (decide (r10.1.2.2.2 = y8.2.1.2.2.2))))) = true then
         some (decide (r10.2.1 = (y8.2.2.length : Int)))
        else
         some false
       else
        some false
      else none
     | .inr x => some x
   | .inr x => some x
def tapearchivelaw14_LabelOneForm (d : Nat) (a0 : List (Bool × Bool × List Int)) : Option Bool :=
  (tapearchivelaw14_lives d).bind fun r1 =>
  if (!r1) = true then
   some false
  else
   (tapearchivelaw14_few d a0).bind fun r2 =>
   if (!r2) = true then
    some true
   else
    (label_Parse d a0).bind fun r3 =>
    if (!decide (r3.2.2 = 0)) = true then
     if (decide (r3.2.1 = 0)) = true then
      some ((decide (r3.1.1 = ByteArray.empty)) && ((decide (r3.1.2.1 = ByteArray.empty)) && ((decide (r3.1.2.2.1 = 0)) && (decide (r3.1.2.2.2 = 0)))))
     else
      some false
    else
     (label_Blocks d r3.1).bind fun r4 =>
     if (decide (r4.2 = 0)) = true then
      if (decide (r3.2.1 = (r4.1.length : Int))) = true then
       if (decide (r3.2.1 ≤ (a0.length : Int))) = true then
        if (decide (0 ≤ (0 : Int) ∧ (0 : Int) ≤ r3.2.1 ∧ r3.2.1 ≤ (a0.length : Int))) = true then
         (tapearchiveref14_Same d ((a0.take r3.2.1.toNat).drop 0) r4.1).bind fun r5 =>
         if r5 = true then
          (label_Valid d r3.1).bind fun r6 =>
          some r6
         else
          some false
        else none
       else
        some false
      else
       some false
     else
      some false
def tapearchivelaw14_LabelDivides_l0 (d : Nat) : Nat → (List Int) → (List (Bool × Bool × List Int)) → Int → (List (Bool × Bool × List Int)) → Option (((List Int) × (List (Bool × Bool × List Int)) × (List (Bool × Bool × List Int))) ⊕ Bool)
  | 0, _, _, _, _ => none
  | k + 1, t0, t1, t6, h1000320 =>
    if (decide (t6 < (h1000320.length : Int))) = true then
     if (decide ((0 : Int) ≤ t6 ∧ t6 < (h1000320.length : Int))) = true then
      if (h1000320.getD t6.toNat zBlock).1 = true then
       some (.inr false)
      else
       if (decide ((0 : Int) ≤ t6 ∧ t6 < (h1000320.length : Int))) = true then
        if (h1000320.getD t6.toNat zBlock).2.1 = true then
         some (.inr false)
        else
         if (decide ((0 : Int) ≤ t6 ∧ t6 < (h1000320.length : Int))) = true then
          if (!decide (((h1000320.getD t6.toNat zBlock).2.2.length : Int) = 64)) = true then
           some (.inr false)
          else
           tapearchivelaw14_LabelDivides_l0 d k t0 t1 (IntKind.i64.wrap (t6 + 1)) h1000320
         else none
       else none
     else none
    else
     some (.inl (t0, t1, h1000320))
def tapearchivelaw14_LabelDivides_l2 (d : Nat) : Nat → (List Int) → Int → Option (Unit ⊕ Bool)
  | 0, _, _ => none
  | k + 1, t7, t8 =>
    if (decide (t8 < (t7.length : Int))) = true then
     if (decide ((0 : Int) ≤ t8 ∧ t8 < (t7.length : Int))) = true then
      if (!decide ((t7.getD t8.toNat 0) = 0)) = true then
       some (.inr false)
      else
       tapearchivelaw14_LabelDivides_l2 d k t7 (IntKind.i64.wrap (t8 + 1))
     else none
    else
     some (.inl ())
def tapearchivelaw14_LabelDivides (d : Nat) (a0 : List Int) (a1 : List (Bool × Bool × List Int)) : Option Bool :=
  (tapearchivelaw14_lives d).bind fun r1 =>
  if (!r1) = true then
   some false
  else
   (show Option (((List Int) × (List (Bool × Bool × List Int))) ⊕ Bool) from
    if (decide ((a0.length : Int) > 4096)) = true then
     some (.inr true)
    else
     (tapearchivelaw14_few d a1).bind fun r3 =>
     if (!r3) = true then
      some (.inr true)
     else
      some (.inl (a0, a1))).bind fun y4 => match y4 with
   | .inl y4 =>
    (label_Divide d y4.1).bind fun r5 =>
    if (!decide ((r5.length : Int) = (IntKind.i64.wrap (Int.tdiv (IntKind.i64.wrap ((IntKind.i64.wrap ((y4.1.length : Int) + 64)) - 1)) 64)))) = true then
     some false
    else
     (tapearchivelaw14_LabelDivides_l0 d d y4.1 y4.2 0 r5).bind fun y7 => match y7 with
     | .inl y7 =>
      (tapearchiveref14_Copied d y7.2.2).bind fun r9 =>
      if (decide ((r9.length + ([(true, false, [])] : List (Bool × Bool × List Int)).length) * 32 ≤ 140737488355328)) = true then
       if (decide (((r9 ++ [(true, false, [])]).length + y7.2.1.length) * 32 ≤ 140737488355328)) = true then
        (label_Bytes d ((r9 ++ [(true, false, [])]) ++ y7.2.1)).bind fun r10 =>
        (show Option (((List Int) × (List Int)) ⊕ Bool) from
         if (!decide ((r10.length : Int) = (IntKind.i64.wrap ((y7.2.2.length : Int) * 64)))) = true then
          some (.inr false)
         else
          if (decide (0 ≤ (0 : Int) ∧ (0 : Int) ≤ (y7.1.length : Int) ∧ (y7.1.length : Int) ≤ (r10.length : Int))) = true then
           if (!decide ((strOf ((r10.take (y7.1.length : Int).toNat).drop 0)) = (strOf y7.1))) = true then
            some (.inr false)
           else
            some (.inl (y7.1, r10))
          else none).bind fun y12 => match y12 with
        | .inl y12 =>
         (tapearchivelaw14_LabelDivides_l2 d d y12.2 (y12.1.length : Int)).bind fun y14 => match y14 with
         | .inl y14 =>
          some true
         | .inr r15 =>
          some r15
        | .inr x => some x
       else none
      else none
     | .inr r8 =>
      some r8
   | .inr x => some x
end Go.Proofs.Ytkgjchmfiohciaa.Den.G14
