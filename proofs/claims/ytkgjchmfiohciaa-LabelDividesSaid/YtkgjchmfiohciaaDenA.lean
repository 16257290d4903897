/- The plain reading of Go code: kinds, values, rows, and what each operation does to them. -/
import GoSem.Step
namespace Go.Proofs.Ytkgjchmfiohciaa.Den
set_option linter.unusedVariables false
/-- Kinds of plain data. -/
inductive K where
  | int (k : IntKind) | bool | str | slice (k : K) | pair (a b : K) | one (k : K) | unit | arr (n : Nat) (k : K)
 deriving DecidableEq
/-- The data of a kind. -/
@[reducible] def T : K → Type
  | .int _ => Int | .bool => Bool | .str => ByteArray | .slice k => List (T k) | .pair a b => T a × T b | .one k => T k | .unit => Unit | .arr _ k => List (T k)
def zero : (k : K) → T k
  | .int _ => (0 : Int) | .bool => false | .str => ByteArray.empty | .slice _ => [] | .pair a b => (zero a, zero b) | .one k => zero k | .unit => () | .arr n k => List.replicate n (zero k)
/-- How many cells a kind has. -/
def K.cells : K → Nat
  | .pair a b => a.cells + b.cells | .one k => k.cells | .unit => 0 | .arr n k => n * k.cells | _ => 1
def K.agg : K → Bool
  | .pair _ _ | .one _ | .unit | .arr _ _ => true | _ => false
/-- Does data of a kind lead to memory? -/
def K.far : K → Bool
  | .slice _ => true | .pair a b => a.far || b.far | .one k => k.far | .arr _ k => k.far | _ => false
/-- Values: plain data; a slice whose capacity is its length; no slice; the whole of a row of the call's own; a part of it; the place of a cell of a row; of a cell of an element of a row; a place that is only read; an aggregate of cells; several results; a function; what is not told. -/
inductive AV where
  | p (k : K) (v : T k)
  | pc (k : K) (v : List (T k))
  | nilsl
  | slw (id ver : Nat) (fl : Bool)
  | sl (id ver : Nat) (off len : Nat)
  | sa (id ver : Nat) (off len : Nat)
  | rw (id ver : Nat)
  | ad (id ver off : Nat)
  | el (id ver : Nat) (i : Nat) (off : Nat)
  | fe (k : K) (v : T k)
  | agg (cs : List AV)
  | tup (vs : List AV)
  | fn (f : Nat) (caps : List AV)
  | u
inductive RowB where
  | cells (cs : List AV)
  | list (k : K) (xs : List (T k))
structure Row where
  ver : Nat
  wr : Bool
  ty : Nat
  b : RowB
structure St where
  t : Nat → AV
  h : Nat → Option Row
/-- What is known of a type. -/
inductive TD where
  | int (k : IntKind) | bool | str | slice (e : Nat) | struct (fs : List (Nat × Nat)) | arr (n e : Nat) | ptr (e : Nat) | fn
structure Ty where
  d : TD
  bytes : Nat
  k : K
def K.castT {a b : K} (h : a = b) (v : T a) : T b := h ▸ v
def castS {a b : K} (h : a = b) (v : List (T a)) : List (T b) := h ▸ v
/-- The slice that a value is, where it can be read. -/
def rdSl (h : Nat → Option Row) (k : K) : AV → Option (List (T k))
  | .nilsl => some []
  | .p k' v => match k', v with
    | .slice k', v => if e : k' = k then some (castS e v) else none
    | _, _ => none
  | .pc k' v => if e : k' = k then some (castS e v) else none
  | .slw id ver fl => match h id with
    | some ⟨rv, _, _, .list k' xs⟩ => if e : rv = ver ∧ k' = k then some (castS e.2 xs) else none
    | _ => none
  | .sl id ver off len => match h id with
    | some ⟨rv, _, _, .list k' xs⟩ => if e : rv = ver ∧ k' = k then some ((castS e.2 (xs.drop off)).take len) else none
    | _ => none
  | .sa id ver off len => match h id with
    | some ⟨rv, _, _, .list k' xs⟩ => if e : rv = ver ∧ k' = k then some ((castS e.2 (xs.drop off)).take len) else none
    | _ => none
  | _ => none
/-- The plain data that a value is. -/
def asP (k : K) (v : AV) : Option (T k) :=
  match v with
  | .p k' v => if e : k' = k then some (K.castT e v) else none
  | _ => none
def asK (h : Nat → Option Row) (k : K) (v : AV) : Option (T k) :=
  match k with
  | .slice k => rdSl h k v
  | k => asP k v
def noRows : Nat → Option Row := fun _ => none
/-- The cells of data. -/
def flatN {α : Type} (f : α → List AV) (z : α) (xs : List α) : Nat → Nat → List AV
  | 0, _ => []
  | n + 1, i => f (xs.getD i z) ++ flatN f z xs n (i + 1)
def flat : (k : K) → T k → List AV
  | .int k, v => [.p (.int k) v] | .bool, v => [.p .bool v] | .str, v => [.p .str v] | .slice k, v => [.p (.slice k) v]
  | .pair a b, v => flat a v.1 ++ flat b v.2 | .one k, v => flat k v | .unit, _ => []
  | .arr n k, v => flatN (flat k) (zero k) v n 0
/-- The cells of the zero value: its slices are nil. -/
def flatZ : K → List AV
  | .slice _ => [.nilsl]
  | .pair a b => flatZ a ++ flatZ b
  | .one k => flatZ k
  | k => flat k (zero k)
def unflatN {α : Type} (f : List AV → Option (α × List AV)) : Nat → List AV → Option (List α × List AV)
  | 0, l => some ([], l)
  | n + 1, l => match f l with
    | some (a, l) => match unflatN f n l with
      | some (as, l) => some (a :: as, l)
      | none => none
    | none => none
def unflat (h : Nat → Option Row) : (k : K) → List AV → Option (T k × List AV)
  | .pair a b, l => match unflat h a l with
    | some (x, l) => match unflat h b l with
      | some (y, l) => some ((x, y), l)
      | none => none
    | none => none
  | .one k, l => unflat h k l
  | .unit, l => some ((), l)
  | .arr n k, l => unflatN (unflat h k) n l
  | .int k, v :: l => match asK h (.int k) v with | some x => some (x, l) | none => none
  | .bool, v :: l => match asK h .bool v with | some x => some (x, l) | none => none
  | .str, v :: l => match asK h .str v with | some x => some (x, l) | none => none
  | .slice k, v :: l => match asK h (.slice k) v with | some x => some (x, l) | none => none
  | _, [] => none
/-- Cells as one value: plain data where all of them are. -/
def AV.isNil : AV → Bool
  | .nilsl => true
  | _ => false
def pack (k : K) (cs : List AV) : AV :=
  match cs.any AV.isNil with
  | true => .agg cs
  | false => match unflat noRows k cs with
    | some (v, []) => .p k v
    | _ => .agg cs
def cellsOf : AV → List AV
  | .p k v => flat k v
  | .agg cs => cs
  | .u => []
  | .tup _ => []
  | .rw _ _ => []
  | v => [v]
/-- A value as plain data, the rows that it leads to read. -/
def toK (h : Nat → Option Row) (k : K) (v : AV) : Option (T k) :=
  match v with
  | .agg cs => match unflat h k cs with | some (x, []) => if k.agg = true then some x else none | _ => none
  | .p k' x => if e : k' = k then some (K.castT e x) else none
  | v => match k with
    | .slice k => rdSl h k v
    | _ => none
/-- The part of data that begins at a cell. -/
def proj : (k : K) → T k → Nat → (kf : K) → Option (T kf)
  | k, v, off, kf =>
    if h : k = kf ∧ off = 0 then some (K.castT h.1 v) else
    match k, v with
    | .pair a b, v => if off < a.cells then proj a v.1 off kf else proj b v.2 (off - a.cells) kf
    | .one k, v => proj k v off kf
    | _, _ => none
def setProj : (k : K) → T k → Nat → (kf : K) → T kf → Option (T k)
  | k, v, off, kf, u =>
    if h : kf = k ∧ off = 0 then some (K.castT h.1 u) else
    match k, v with
    | .pair a b, v => if off < a.cells then (setProj a v.1 off kf u).map (·, v.2) else (setProj b v.2 (off - a.cells) kf u).map (v.1, ·)
    | .one k, v => setProj k v off kf u
    | _, _ => none
def cv : Value → AV
  | .bool b => .p .bool b
  | .int k n => .p (.int k) n
  | .string s => .p .str s
  | .slice none l c => if l = 0 ∧ c = 0 then .nilsl else .u
  | .func (.func f) a b => if a.size = 0 ∧ b.size = 0 then .fn f [] else .u
  | _ => .u
def St.ev (s : St) : Operand → AV
  | .tmp t => bif Nat.blt t 5000000 then s.t t else .u
  | .const v => cv v
  | .func f => .fn f []
  | .global _ => .u
def upd {α : Type} (f : Nat → α) (i : Nat) (v : α) : Nat → α := fun j => bif Nat.beq i j then v else f j
def putD (t : Nat → AV) (dst : Option Tmp) (v : AV) : Nat → AV := match dst with | some d => upd t d v | none => t
def hupd (h : Nat → Option Row) : List (Nat × Row) → Nat → Option Row
  | [] => h
  | p :: l => hupd (upd h p.1 (some p.2)) l
structure Eff where
  v : AV
  u : List (Nat × Row)
def lenOf (h : Nat → Option Row) : AV → Option Int
  | .nilsl => some 0
  | .p (.slice _) xs => some (List.length xs : Int)
  | .pc _ xs => some (xs.length : Int)
  | .slw id ver fl => match h id with
    | some ⟨rv, _, _, .list _ xs⟩ => if rv = ver then some (xs.length : Int) else none
    | _ => none
  | .sl id ver _ len => match h id with
    | some ⟨rv, _, _, .list _ _⟩ => if rv = ver then some (len : Int) else none
    | _ => none
  | .sa id ver _ len => match h id with
    | some ⟨rv, _, _, .list _ _⟩ => if rv = ver then some (len : Int) else none
    | _ => none
  | _ => none
def getZ (k : K) (xs : List (T k)) (i : Nat) : T k := xs.getD i (zero k)
/-- The body of a box. -/
def mkBody : (k : K) → T k → RowB
  | .arr _ k, xs => .list k xs
  | k, v => .cells (flat k v)
/-- The version of a row that is made. -/
def nver (h : Nat → Option Row) (d : Nat) : Nat := match h d with | some r => r.ver + 1 | none => 0
/-- A value of one cell. -/
def AV.one : AV → Bool
  | .p k _ => !k.agg
  | .agg _ | .tup _ | .u | .rw _ _ => false
  | _ => true
def putAt (cs : List AV) (off : Nat) (vs : List AV) : List AV := cs.take off ++ vs ++ cs.drop (off + vs.length)
mutual
def AV.ids : AV → List Nat
  | .slw id _ _ | .sl id _ _ _ | .sa id _ _ _ | .rw id _ | .ad id _ _ | .el id _ _ _ => [id]
  | .agg cs | .tup cs | .fn _ cs => AV.idss cs
  | _ => []
def AV.idss : List AV → List Nat
  | [] => []
  | v :: vs => v.ids ++ AV.idss vs
end
/-- Rows that are not written any more. -/
def freeze (h : Nat → Option Row) : List Nat → List (Nat × Row)
  | [] => []
  | i :: l => match h i with
    | some r => (i, { r with wr := false }) :: freeze h l
    | none => freeze h l
/-- What an operation comes to, where it may branch, fail, or wait for what a callee answers. -/
inductive Dec (α : Type) : Type 1 where
  | fail | ret (a : α) | ite (c : Bool) (x y : Dec α) | bind {β : Type} (o : Option β) (k : β → Dec α)
def Dec.guard {α : Type} (b : Bool) (x : Dec α) : Dec α := .ite b x .fail
def Dec.run {α X : Type} : Dec α → (α → Option X) → Option X
  | .fail, _ => none
  | .ret a, c => c a
  | .ite b x y, c => if b = true then x.run c else y.run c
  | .bind o k, c => o.bind fun b => (k b).run c
def Dec.sem {α : Type} : Dec α → Option α
  | .fail => none
  | .ret a => some a
  | .ite b x y => match b with | true => x.sem | false => y.sem
  | .bind o k => match o with | some b => (k b).sem | none => none
theorem Dec.run_eq {α X : Type} (c : α → Option X) : ∀ d : Dec α, d.run c = match d.sem with | some a => c a | none => none
  | .fail => rfl
  | .ret a => rfl
  | .ite b x y => by cases b <;> simp [Dec.run, Dec.sem, Dec.run_eq c x, Dec.run_eq c y]
  | .bind o k => by cases o with
    | none => rfl
    | some b => simp [Dec.run, Dec.sem, Dec.run_eq c (k b)]
section
variable (τ : Nat → Option Ty)
def allOnes (k : IntKind) : Int := if k.signed then -1 else k.max
def arith (op : BinOp) (k : IntKind) (x y : Int) (c : AV → Dec Eff) : Dec Eff :=
  match op with
  | .add => c (.p (.int k) (k.wrap (x + y)))
  | .sub => c (.p (.int k) (k.wrap (x - y)))
  | .mul => c (.p (.int k) (k.wrap (x * y)))
  | .quo => .ite (decide (y = 0)) .fail (c (.p (.int k) (k.wrap (x.tdiv y))))
  | .rem => .ite (decide (y = 0)) .fail (c (.p (.int k) (x.tmod y)))
  | .eql => c (.p .bool (decide (x = y)))
  | .neq => c (.p .bool (!decide (x = y)))
  | .lss => c (.p .bool (decide (x < y)))
  | .leq => c (.p .bool (decide (x ≤ y)))
  | .gtr => c (.p .bool (decide (x > y)))
  | .geq => c (.p .bool (decide (x ≥ y)))
  | .and => c (.p (.int k) (k.wrap (BitVec.ofInt k.bits x &&& BitVec.ofInt k.bits y).toNat))
  | .or => c (.p (.int k) (k.wrap (BitVec.ofInt k.bits x ||| BitVec.ofInt k.bits y).toNat))
  | .xor => c (.p (.int k) (k.wrap (BitVec.ofInt k.bits x ^^^ BitVec.ofInt k.bits y).toNat))
  | .andNot => c (.p (.int k) (k.wrap (BitVec.ofInt k.bits x &&& ~~~ BitVec.ofInt k.bits y).toNat))
  | _ => .fail
/-- Equality as Go's ==, of a type. -/
def eqTs (f : Nat → Nat → Option Bool) : List (Nat × Nat) → Option Bool
  | [] => some true
  | [p] => f p.1 p.2
  | p :: ps => match f p.1 p.2, eqTs f ps with
    | some a, some b => some (a && b)
    | _, _ => none
def eqTy : Nat → Nat → (k : K) → T k → T k → Option Bool
  | 0, _, _, _, _ => none
  | n + 1, t, k, x, y => match τ t with
    | none => none
    | some ty => match ty.d, k, x, y with
      | .int i, .int j, x, y => if i = j then some (decide ((x : Int) = y)) else none
      | .bool, .bool, x, y => some (decide ((x : Bool) = y))
      | .str, .str, x, y => some (decide ((x : ByteArray) = y))
      | .arr _ et, .arr _ k, x, y => (match τ et with
        | none => none
        | some ety => match ety.d, k, x, y with
          | .int i, .int j, x, y => if i = j then some (decide ((x : List Int) = y)) else none
          | .str, .str, x, y => some (decide ((x : List ByteArray) = y))
          | _, _, _, _ => none)
      | .struct fs, k, x, y => eqTs (fun off ft => match τ ft with
        | none => none
        | some fty => match proj k x off fty.k, proj k y off fty.k with
          | some a, some b => eqTy n ft fty.k a b
          | _, _ => none) fs
      | _, _, _, _ => none
def strLt (x y : ByteArray) : Bool := Op.bytesLess x.toList y.toList
def binE (t : Nat) (op : BinOp) (x y : AV) (c : AV → Dec Eff) : Dec Eff :=
  match x, y with
  | .p (.int k) a, .p (.int k') b => match op with
    | .shl => Dec.guard (decide ((0 : Int) ≤ b)) (c (.p (.int k) (k.wrap (a * 2 ^ (min b.toNat k.bits)))))
    | .shr => Dec.guard (decide ((0 : Int) ≤ b)) (c (.p (.int k) (a.fdiv (2 ^ (min b.toNat k.bits)))))
    | op => if k = k' then arith op k a b c else .fail
  | .p .str a, .p .str b => match op with
    | .eql => c (.p .bool (decide ((a : ByteArray) = b)))
    | .neq => c (.p .bool (!decide ((a : ByteArray) = b)))
    | .lss => c (.p .bool (strLt a b))
    | .leq => c (.p .bool (strLt a b || decide ((a : ByteArray) = b)))
    | .gtr => c (.p .bool (!(strLt a b || decide ((a : ByteArray) = b))))
    | .geq => c (.p .bool (!strLt a b))
    | .add => Dec.guard (decide ((ByteArray.size a : Int) + ByteArray.size b ≤ 9223372036854775807)) (c (.p .str ((a : ByteArray) ++ b)))
    | _ => .fail
  | .p .bool a, .p .bool b => match τ t, op with
    | some ⟨.bool, _, _⟩, .eql => c (.p .bool (decide ((a : Bool) = b)))
    | some ⟨.bool, _, _⟩, .neq => c (.p .bool (!decide ((a : Bool) = b)))
    | _, _ => .fail
  | .p k a, .p k' b => match τ t with
    | some ty => if h : k' = k ∧ ty.k = k ∧ k.agg = true then
        (match op, eqTy τ 6 t k a (K.castT h.1 b) with
        | .eql, some r => c (.p .bool r)
        | .neq, some r => c (.p .bool (!r))
        | _, _ => .fail)
      else .fail
    | none => .fail
  | _, _ => .fail
/-- A bound of a slice. -/
def bound (ev : Operand → AV) (d : Int) : Option Operand → Option Int
  | none => some d
  | some x => match ev x with | .p (.int _) n => some n | _ => none
def intOf : AV → Option Int
  | .p (.int _) n => some n
  | _ => none
def bytesOf (s : ByteArray) : List Int := s.data.toList.map fun b => (b.toNat : Int)
def strOf (l : List Int) : ByteArray := ⟨(l.map fun n => UInt8.ofNat n.toNat).toArray⟩
def effLen (h : Nat → Option Row) (ev : Operand → AV) (args : List Operand) (ts : List TypeId) : Dec Eff :=
  match args, ts with
  | [x], [t] => match τ t, ev x with
    | some ⟨.str, _, _⟩, .p .str s => .ret ⟨.p (.int .i64) (ByteArray.size s : Int), []⟩
    | some ⟨.slice _, _, _⟩, v => match lenOf h v with | some n => .ret ⟨.p (.int .i64) n, []⟩ | none => .fail
    | _, _ => .fail
  | _, _ => .fail
def effMM (f : Int → Int → Int) (ev : Operand → AV) (args : List Operand) : Dec Eff :=
  match args with
  | [x, y] => match ev x, ev y with
    | .p (.int k) a, .p (.int k') b => if k = k' then .ret ⟨.p (.int k) (f a b), []⟩ else .fail
    | _, _ => .fail
  | _ => .fail
/-- Appending the bytes of a string to a row of the call's own. -/
def effAppendStr (h : Nat → Option Row) (ev : Operand → AV) (s x : Operand) (t t' : Nat) : Dec Eff :=
  match τ t, τ t', ev s, ev x with
  | some ⟨.slice e, _, .slice (.int .u8)⟩, some ⟨.str, _, _⟩, .slw id ver fl, .p .str y => (match τ e, h id with
    | some ety, some ⟨rv, true, ty, .list k' xs⟩ => if q : rv = ver ∧ k' = .int .u8 ∧ ty = e ∧ 0 < ety.bytes then
        Dec.guard (decide ((xs.length + (bytesOf y).length) * ety.bytes ≤ 140737488355328)) (.ret ⟨.slw id (ver + 1) false, [(id, ⟨ver + 1, true, e, .list (.int .u8) (castS q.2.1 xs ++ bytesOf y)⟩)]⟩) else .fail
    | _, _ => .fail)
  | _, _, _, _ => .fail
def effAppend (h : Nat → Option Row) (ev : Operand → AV) (dst : Option Tmp) (args : List Operand) (ts : List TypeId) : Dec Eff :=
  match args, ts with
  | [s, x], [t, t'] => if t' = t then (match τ t with
    | some ⟨.slice e, _, .slice k⟩ => match τ e, rdSl h k (ev x) with
      | some ety, some ys => if 0 < ety.bytes then (match ev s with
        | .pc k' xs => if q : k' = k then
            Dec.guard (decide (((castS q xs).length + ys.length) * ety.bytes ≤ 140737488355328)) (.ret ⟨.p (.slice k) (castS q xs ++ ys), []⟩) else .fail
        | .nilsl => match dst with
          | some d => Dec.guard (decide (ys.length * ety.bytes ≤ 140737488355328)) (.ret ⟨.slw d (nver h d) false, [(d, ⟨nver h d, true, e, .list k ys⟩)]⟩)
          | none => .fail
        | .slw id ver fl => match h id with
          | some ⟨rv, true, ty, .list k' xs⟩ => if q : rv = ver ∧ k' = k ∧ ty = e then
              Dec.guard (decide ((xs.length + ys.length) * ety.bytes ≤ 140737488355328)) (.ret ⟨.slw id (ver + 1) false, [(id, ⟨ver + 1, true, e, .list k (castS q.2.1 xs ++ ys)⟩)]⟩) else .fail
          | _ => .fail
        | .sl id ver 0 len => match h id with
          | some ⟨rv, true, ty, .list k' xs⟩ => if q : rv = ver ∧ k' = k ∧ ty = e then
              Dec.guard (decide ((len + ys.length) * ety.bytes ≤ 140737488355328)) (.ret ⟨.slw id (ver + 1) false, [(id, ⟨ver + 1, true, e, .list k ((castS q.2.1 xs).take len ++ ys)⟩)]⟩) else .fail
          | _ => .fail
        | _ => .fail) else .fail
      | _, _ => .fail
    | _ => .fail) else effAppendStr τ h ev s x t t'
  | _, _ => .fail
def cpy {α : Type} (xs ys : List α) (off len : Nat) : List α := xs.take off ++ (ys.take (min ys.length len) ++ xs.drop (off + min ys.length len))
def effCopy (h : Nat → Option Row) (ev : Operand → AV) (args : List Operand) (ts : List TypeId) : Dec Eff :=
  match args, ts with
  | [d, x], [t, t'] => match τ t, τ t' with
    | some ⟨.slice e, _, .slice k⟩, some ⟨.slice e', _, _⟩ => if e' = e ∧ k.cells = 1 then (match rdSl h k (ev x) with
      | some ys => (match ev d with
        | .slw id ver fl => match h id with
          | some ⟨rv, true, ty, .list k' xs⟩ => if q : rv = ver ∧ k' = k then
              .ret ⟨.p (.int .i64) (min (ys.length : Int) (xs.length : Int)), [(id, ⟨rv, true, ty, .list k (cpy (castS q.2 xs) ys 0 xs.length)⟩)]⟩ else .fail
          | _ => .fail
        | .sl id ver off len => match h id with
          | some ⟨rv, true, ty, .list k' xs⟩ => if q : rv = ver ∧ k' = k then
              .ret ⟨.p (.int .i64) (min (ys.length : Int) (len : Int)), [(id, ⟨rv, true, ty, .list k (cpy (castS q.2 xs) ys off len)⟩)]⟩ else .fail
          | _ => .fail
        | _ => .fail)
      | none => .fail) else .fail
    | _, _ => .fail
  | _, _ => .fail
def effCall (h : Nat → Option Row) (ev : Operand → AV) (dst : Option Tmp) (b : Builtin) (args : Array Operand) (ts : Array TypeId) : Dec Eff :=
  match b with
  | .len => effLen τ h ev args.toList ts.toList
  | .min => effMM min ev args.toList
  | .max => effMM max ev args.toList
  | .append => effAppend τ h ev dst args.toList ts.toList
  | .copy => effCopy τ h ev args.toList ts.toList
  | _ => .fail
/-- The parts of a literal, one after another. -/
def buildL (ev : Operand → AV) (fs : List (Nat × Nat)) : List (Nat × Operand) → List AV → Option (List AV)
  | [], cs => some cs
  | p :: ps, cs => match fs[p.1]? with
    | some q => match τ q.2 with
      | some fty => if (cellsOf (ev p.2)).length = fty.k.cells ∧ q.1 + fty.k.cells ≤ cs.length then buildL ev fs ps (putAt cs q.1 (cellsOf (ev p.2))) else none
      | none => none
    | none => none
def frozen (h : Nat → Option Row) (i : Nat) : Bool := match h i with | some r => !r.wr | none => false
def setL (ev : Operand → AV) (h : Nat → Option Row) (k : K) : List (Nat × Operand) → List (T k) → Option (List (T k))
  | [], xs => some xs
  | p :: ps, xs => match (if ((ev p.2).ids.all fun i => frozen h i) = true then toK h k (ev p.2) else none) with
    | some x => if p.1 < xs.length then setL ev h k ps (xs.set p.1 x) else none
    | none => none
/-- Is it one place? -/
def sameOp : Operand → Operand → Bool
  | .tmp a, .tmp b => Nat.beq a b
  | _, _ => false
def effS (ev : Operand → AV) (h : Nat → Option Row) (o : Oper) : Dec Eff :=
  match o.op with
  | .move x | .assign x => .ret ⟨ev x, []⟩
  | .pick b x y => match ev b with
    | .p .bool b => .ite b (.ret ⟨ev x, []⟩) (.ret ⟨ev y, []⟩)
    | _ => .fail
  | .binOp op t x y _ => binE τ t op (ev x) (ev y) fun v => .ret ⟨v, []⟩
  | .unOp .not _ x => match ev x with | .p .bool b => .ret ⟨.p .bool (!b), []⟩ | _ => .fail
  | .unOp .xor _ x => match ev x with | .p (.int k) n => .ret ⟨.p (.int k) (k.wrap (BitVec.ofInt k.bits (allOnes k) ^^^ BitVec.ofInt k.bits n).toNat), []⟩ | _ => .fail
  | .makeFunc (.func f) fs cs => if fs.toList.isEmpty = true then .ret ⟨.fn f (cs.toList.map ev), []⟩ else .fail
  | .unOp .neg _ x => match ev x with | .p (.int k) n => .ret ⟨.p (.int k) (k.wrap (0 - n)), []⟩ | _ => .fail
  | .nilCheck x => match ev x with | .ad id ver off => .ret ⟨.ad id ver off, []⟩ | .el id ver i off => .ret ⟨.el id ver i off, []⟩ | .fe k v => .ret ⟨.fe k v, []⟩ | _ => .fail
  | .extract t i => match ev t with | .tup vs => (match vs[i]? with | some v => .ret ⟨v, []⟩ | none => .fail) | _ => .fail
  | .call { callee := .builtin b, args := as, argTypes := ts } => effCall τ h ev o.dst b as ts
  | .convert s d x => match τ s, τ d, ev x with
    | some _, some ⟨.int k, _, _⟩, .p (.int _) n => .ret ⟨.p (.int k) (k.wrap n), []⟩
    | some _, some ⟨.str, _, _⟩, .p .str v => .ret ⟨.p .str v, []⟩
    | some ⟨.slice e, _, _⟩, some ⟨.str, _, _⟩, v => match τ e with
      | some ⟨.int .u8, _, _⟩ => match rdSl h (.int .u8) v with | some l => .ret ⟨.p .str (strOf l), []⟩ | none => .fail
      | _ => .fail
    | some _, some ⟨.slice e, _, _⟩, .p .str v => match τ e with
      | some ⟨.int .u8, _, _⟩ => .ret ⟨.p (.slice (.int .u8)) (bytesOf v), []⟩
      | _ => .fail
    | some ⟨.slice _, _, _⟩, some ⟨.slice e, _, _⟩, .slw id ver fl => match τ e, h id with
      | some ⟨.int .u8, _, _⟩, some ⟨rv, true, ty, .list (.int .u8) (y :: ys)⟩ => if rv = ver ∧ s = d then .ret ⟨.p (.slice (.int .u8)) (y :: ys), [(id, ⟨ver + 1, false, ty, .list (.int .u8) []⟩)]⟩ else .fail
      | _, _ => .fail
    | _, _, _ => .fail
  | .fieldAddr s x f => match τ s with
    | some ⟨.struct fs, _, _⟩ => match fs[f]? with
      | some (off, ft) => match ev x with
        | .ad id ver o => .ret ⟨.ad id ver (o + off), []⟩
        | .el id ver i o => .ret ⟨.el id ver i (o + off), []⟩
        | .fe k v => match τ ft with
          | some fty => match proj k v off fty.k with
            | some u => .ret ⟨.fe fty.k u, []⟩
            | none => .fail
          | none => .fail
        | _ => .fail
      | none => .fail
    | _ => .fail
  | .field s x f => match τ s with
    | some ⟨.struct fs, _, _⟩ => match fs[f]?, ev x with
      | some (off, ft), .p k v => if k.agg = true then (match τ ft with
        | some fty => match proj k v off fty.k with
          | some u => .ret ⟨.p fty.k u, []⟩
          | none => .fail
        | none => .fail) else .fail
      | _, _ => .fail
    | _ => .fail
  | .indexAddr t x i => match τ t, intOf (ev i) with
    | some ⟨.slice _, _, .slice k⟩, some i => match ev x with
      | .slw id ver fl => match h id with
        | some ⟨rv, _, _, .list k' xs⟩ => if rv = ver ∧ k' = k then (Dec.guard (decide (0 ≤ i ∧ i < (xs.length : Int))) (.ret ⟨.el id ver i.toNat 0, []⟩)) else .fail
        | _ => .fail
      | .sl id ver off len => match h id with
        | some ⟨rv, _, _, .list k' xs⟩ => if rv = ver ∧ k' = k then (Dec.guard (decide (0 ≤ i ∧ i < (len : Int))) (.ret ⟨.el id ver (off + i.toNat) 0, []⟩)) else .fail
        | _ => .fail
      | v => match rdSl noRows k v with
        | some xs => Dec.guard (decide (0 ≤ i ∧ i < (xs.length : Int))) (.ret ⟨.fe k (getZ k xs i.toNat), []⟩)
        | none => .fail
    | some ⟨.arr n _, _, .arr _ k⟩, some i => match ev x with
      | .ad id ver 0 => match h id with
        | some ⟨rv, _, _, .list k' xs⟩ => if rv = ver ∧ k' = k then (Dec.guard (decide (0 ≤ i ∧ i < (n : Int) ∧ i < (xs.length : Int))) (.ret ⟨.el id ver i.toNat 0, []⟩)) else .fail
        | _ => .fail
      | .fe (.arr n' k') xs => if n' = n ∧ k' = k then Dec.guard (decide (0 ≤ i ∧ i < (n : Int))) (.ret ⟨.fe k' (getZ k' xs i.toNat), []⟩) else .fail
      | _ => .fail
    | _, _ => .fail
  | .index t x i => match τ t, intOf (ev i), ev x with
    | some ⟨.str, _, _⟩, some i, .p .str s => Dec.guard (decide (0 ≤ i ∧ i < (ByteArray.size s : Int))) (.ret ⟨.p (.int .u8) (((ByteArray.data s).getD i.toNat 0).toNat : Int), []⟩)
    | some ⟨.arr n _, _, .arr _ k⟩, some i, .p (.arr n' k') xs => if n' = n ∧ k' = k then Dec.guard (decide (0 ≤ i ∧ i < (n : Int))) (.ret ⟨.p k' (getZ k' xs i.toNat), []⟩) else .fail
    | _, _, _ => .fail
  | .sliceToArrayPointer t x => match τ t with
    | some ⟨.arr n _, _, .arr n' k⟩ => match rdSl noRows k (ev x) with
      | some xs => if n' = n ∧ 0 < n then Dec.guard (decide ((n : Int) ≤ (xs.length : Int))) (.ret ⟨.fe (.arr n k) (xs.take n), []⟩) else .fail
      | none => .fail
    | _ => .fail
  | .load t a => match τ t with
    | some ty => match ev a with
      | .fe k v => if k = ty.k then .ret ⟨.p k v, []⟩ else .fail
      | .ad id ver off => match h id with
        | some ⟨rv, _, _, .cells cs⟩ => if rv = ver ∧ off + ty.k.cells ≤ cs.length then
            (if ty.k.agg = true then .ret ⟨pack ty.k ((cs.drop off).take ty.k.cells), []⟩ else match cs[off]? with | some v => .ret ⟨v, []⟩ | none => .fail)
          else .fail
        | some ⟨rv, _, _, .list k xs⟩ => match ty.k, off with
          | .arr n k', 0 => if rv = ver ∧ k' = k then Dec.guard (decide ((xs.length : Int) = n)) (.ret ⟨.p (.arr n k) xs, []⟩) else .fail
          | _, _ => .fail
        | _ => .fail
      | .el id ver i off => match h id with
        | some ⟨rv, _, _, .list k' xs⟩ => if rv = ver then (match proj k' (getZ k' xs i) off ty.k with | some u => .ret ⟨.p ty.k u, []⟩ | none => .fail) else .fail
        | _ => .fail
      | _ => .fail
    | none => .fail
  | .store t a x => match τ t with
    | some ty => match ev a with
      | .ad id ver off => match h id with
        | some ⟨rv, true, e, .cells cs⟩ => if rv = ver ∧ (cellsOf (ev x)).length = ty.k.cells ∧ off + ty.k.cells ≤ cs.length ∧ (cellsOf (ev x)).all AV.one = true then .ret ⟨.u, [(id, ⟨rv, true, e, .cells (putAt cs off (cellsOf (ev x)))⟩)]⟩ else .fail
        | some ⟨rv, true, e, .list k xs⟩ => match ty.k, off, ev x with
          | .arr n k', 0, .p (.arr n' k2) ys => if rv = ver ∧ k2 = k ∧ k' = k ∧ n' = n then Dec.guard (decide ((xs.length : Int) = n)) (.ret ⟨.u, [(id, ⟨rv, true, e, .list k2 ys⟩)]⟩) else .fail
          | _, _, _ => .fail
        | _ => .fail
      | .el id ver i off => match h id with
        | some ⟨rv, true, e, .list k xs⟩ => if rv = ver ∧ ((ev x).ids.all fun i => frozen h i) = true then
            (match toK h ty.k (ev x) with
              | some u => (match setProj k (getZ k xs i) off ty.k u with
                | some y => .ret ⟨.u, [(id, ⟨rv, true, e, .list k (xs.set i y)⟩)]⟩
                | none => .fail)
              | none => .fail)
          else .fail
        | _ => .fail
      | _ => .fail
    | none => .fail
  | .box e x => match τ e, o.dst with
    | some ⟨.arr n _, _, .arr _ k⟩, some d => match ev x with
      | .p (.arr n' k') xs => if n' = n ∧ k' = k ∧ n ≤ 65536 then .ret ⟨.ad d (nver h d) 0, [(d, ⟨nver h d, true, e, .list k' xs⟩)]⟩ else .fail
      | _ => .fail
    | some ty, some d => if (cellsOf (ev x)).length = ty.k.cells then .ret ⟨.ad d (nver h d) 0, [(d, ⟨nver h d, true, e, .cells (cellsOf (ev x))⟩)]⟩ else .fail
    | _, _ => .fail
  | .alloc e => match τ e, o.dst with
    | some ⟨.arr n _, _, .arr n' k⟩, some d => if n' = n ∧ n ≤ 65536 then .ret ⟨.ad d (nver h d) 0, [(d, ⟨nver h d, true, e, .list k (List.replicate n (zero k))⟩)]⟩ else .fail
    | some ty, some d => .ret ⟨.ad d (nver h d) 0, [(d, ⟨nver h d, true, e, .cells (flatZ ty.k)⟩)]⟩
    | _, _ => .fail
  | .build t ps => match τ t with
    | some ⟨.struct fs, _, k⟩ =>
      match buildL τ ev fs ps.toList (flatZ k) with
      | some cs => if cs.length = k.cells then .ret ⟨pack k cs, []⟩ else .fail
      | none => .fail
    | some ⟨.arr n _, _, .arr n' k⟩ =>
      match (if n' = n ∧ n * k.cells ≤ 16777216 then setL ev h k ps.toList (List.replicate n (zero k)) else none) with
      | some xs => .ret ⟨.p (.arr n k) xs, []⟩
      | none => .fail
    | _ => .fail
  | .makeSlice t x y => match τ t, ev x, ev y, o.dst with
    | some ⟨.slice e, _, .slice k⟩, .p (.int .i64) n, .p (.int .i64) m, some d => match τ e with
      | some ety => Dec.guard (decide (0 ≤ n ∧ n ≤ m ∧ (ety.bytes : Int) * m ≤ 281474976710656 ∧ m ≤ 9223372036854775807)) (.ret ⟨.slw d (nver h d) (sameOp x y), [(d, ⟨nver h d, true, e, .list k (List.replicate n.toNat (zero k))⟩)]⟩)
      | none => .fail
    | _, _, _, _ => .fail
  | .buildSlice t n ps => match τ t, o.dst with
    | some ⟨.slice e, _, .slice k⟩, some d =>
      match (if n * k.cells ≤ 16777216 then setL ev h k ps.toList (List.replicate n (zero k)) else none) with
      | some xs => .ret ⟨.slw d (nver h d) true, [(d, ⟨nver h d, true, e, .list k xs⟩)]⟩
      | none => .fail
    | _, _ => .fail
  | .slice t x lo hi mx => match ev x with
    | .p .str s => match τ t, bound ev (ByteArray.size s) hi, bound ev 0 lo with
      | some ⟨.str, _, _⟩, some H, some L => if mx.isNone = true then (Dec.guard (decide (0 ≤ L ∧ L ≤ H ∧ H ≤ (ByteArray.size s : Int))) (.ret ⟨.p .str (ByteArray.extract s L.toNat H.toNat), []⟩)) else .fail
      | _, _, _ => .fail
    | .ad id ver 0 => match h id, τ t with
      | some ⟨rv, wr, e, .list k xs⟩, some ⟨.arr n _, _, .arr _ k'⟩ => match bound ev (n : Int) hi, bound ev 0 lo with
        | some H, some L => if rv = ver ∧ k' = k ∧ mx.isNone = true then Dec.guard (decide (0 ≤ L ∧ L ≤ H ∧ H ≤ (n : Int) ∧ (xs.length : Int) = n)) (.ret ⟨.sa id ver L.toNat (H.toNat - L.toNat), []⟩) else .fail
        | _, _ => .fail
      | _, _ => .fail
    | .slw id ver fl => match h id, τ t with
      | some ⟨rv, wr, e, .list k xs⟩, some ⟨.slice _, _, .slice k'⟩ => match bound ev (xs.length : Int) hi, bound ev 0 lo with
        | some H, some L => if rv = ver ∧ k' = k then Dec.guard (decide (0 ≤ L ∧ L ≤ H ∧ H ≤ (xs.length : Int)))
            (match mx with
              | none => .ret ⟨.sl id ver L.toNat (H.toNat - L.toNat), []⟩
              | some q => match intOf (ev q), hi with
                | some M, some _ => if fl = true ∧ lo.isNone = true then Dec.guard (decide (M = H ∧ H = (xs.length : Int))) (.ret ⟨.slw id ver true, []⟩) else Dec.guard (decide (M = H)) (.ret ⟨.pc k ((xs.take H.toNat).drop L.toNat), [(id, ⟨rv, false, e, .list k xs⟩)]⟩)
                | _, _ => .fail) else .fail
        | _, _ => .fail
      | _, _ => .fail
    | v => match τ t with
      | some ⟨.slice _, _, .slice k⟩ => match rdSl noRows k v with
        | some xs => match bound ev (xs.length : Int) hi, bound ev 0 lo with
          | some H, some L => Dec.guard (decide (0 ≤ L ∧ L ≤ H ∧ H ≤ (xs.length : Int))) ((match mx with
                | none => .ret ⟨.p (.slice k) ((xs.take H.toNat).drop L.toNat), []⟩
                | some q => match intOf (ev q), hi with
                  | some M, some _ => Dec.guard (decide (M = H)) (.ret ⟨.pc k ((xs.take H.toNat).drop L.toNat), []⟩)
                  | _, _ => .fail))
          | _, _ => .fail
        | none => .fail
      | _ => .fail
  | _ => .fail
end
/-! Shapes: what a state is at a cut. -/
/-- A captured place: read only, or a cell of a row. -/
inductive CS where
  | fe (k : K) | ad (id off : Nat)
inductive Slot where
  | p (k : K) | pc (k : K) | slw (id : Nat) (fl : Bool) | ad (id off : Nat) | fn (f : Nat) (cs : List CS) | sl (id : Nat) | fe (k : K) | rw (id : Nat)
inductive RS where
  | list (ty : Nat) (k : K)
  | cells (ty : Nat) (cs : List Slot)
  | agg (ty : Nat) (k : K)
structure Shape where
  t : List (Nat × Slot)
  h : List (Nat × RS)
@[reducible] def Leafs : List K → Type
  | [] => Unit
  | [k] => T k
  | k :: ks => T k × Leafs ks
def CS.ks : List CS → List K
  | [] => []
  | .fe k :: l => k :: CS.ks l
  | .ad _ _ :: l => CS.ks l
def Slot.ks : Slot → List K | .p k => [k] | .pc k => [.slice k] | .fn _ cs => CS.ks cs | .sl _ => [.int .i64, .int .i64] | .fe k => [k] | _ => []
def Slot.kss : List Slot → List K
  | [] => []
  | s :: ss => s.ks ++ Slot.kss ss
def RS.ks : RS → List K | .list _ k => [.slice k] | .cells _ cs => Slot.kss cs | .agg _ k => [k]
def tks : List (Nat × Slot) → List K
  | [] => []
  | p :: l => p.2.ks ++ tks l
def hks : List (Nat × RS) → List K
  | [] => []
  | p :: l => p.2.ks ++ hks l
def Shape.ks (s : Shape) : List K := tks s.t ++ hks s.h
/-- Plain data with its kind. -/
structure PV where
  k : K
  v : T k
/-- Leafs as a list. -/
def unL : (ks : List K) → Leafs ks → List PV
  | [], _ => []
  | [k], v => [⟨k, v⟩]
  | k :: k' :: ks, v => ⟨k, v.1⟩ :: unL (k' :: ks) v.2
def leafs : (ks : List K) → List PV → Option (Leafs ks)
  | [], [] => some ()
  | [k], [v] => if e : v.k = k then some (K.castT e v.v) else none
  | k :: k' :: ks, v :: l => if e : v.k = k then (match leafs (k' :: ks) l with | some y => some (K.castT e v.v, y) | none => none) else none
  | _, _ => none
def CS.mk : List CS → List PV → List AV × List PV
  | [], l => ([], l)
  | .fe _ :: cs, p :: l => (.fe p.k p.v :: (CS.mk cs l).1, (CS.mk cs l).2)
  | .fe _ :: cs, [] => (.u :: (CS.mk cs []).1, [])
  | .ad id off :: cs, l => (.ad id 0 off :: (CS.mk cs l).1, (CS.mk cs l).2)
def toNatPV : PV → Nat
  | ⟨.int _, n⟩ => Int.toNat n
  | _ => 0
def Slot.mk (s : Slot) (l : List PV) : AV × List PV :=
  match s with
  | .p _ => (match l with | v :: l => (.p v.k v.v, l) | [] => (.u, []))
  | .pc _ => (match l with | ⟨.slice k, v⟩ :: l => (.pc k v, l) | l => (.u, l.tail))
  | .slw id fl => (.slw id 0 fl, l) | .ad id off => (.ad id 0 off, l) | .fn f cs => (.fn f (CS.mk cs l).1, (CS.mk cs l).2)
  | .sl id => (match l with | u :: v :: l => (.sl id 0 (toNatPV u) (toNatPV v), l) | l => (.u, []))
  | .fe _ => (match l with | v :: l => (.fe v.k v.v, l) | [] => (.u, []))
  | .rw id => (.rw id 0, l)
def Slot.mks : List Slot → List PV → List AV × List PV
  | [], l => ([], l)
  | s :: ss, l => ((s.mk l).1 :: (Slot.mks ss (s.mk l).2).1, (Slot.mks ss (s.mk l).2).2)
def mkT : List (Nat × Slot) → List PV → (Nat → AV) × List PV
  | [], l => (fun _ => .u, l)
  | (i, s) :: ss, l => (upd (mkT ss (s.mk l).2).1 i (s.mk l).1, (mkT ss (s.mk l).2).2)
def RS.mk (r : RS) (l : List PV) : Option Row × List PV :=
  match r with
  | .list ty _ => (match l with | ⟨.slice k, xs⟩ :: l => (some ⟨0, true, ty, .list k xs⟩, l) | l => (none, l.tail))
  | .cells ty cs => (some ⟨0, true, ty, .cells (Slot.mks cs l).1⟩, (Slot.mks cs l).2)
  | .agg ty _ => (match l with | v :: l => (some ⟨0, true, ty, .cells (flat v.k v.v)⟩, l) | [] => (none, []))
def mkH : List (Nat × RS) → List PV → (Nat → Option Row)
  | [], _ => fun _ => none
  | (i, r) :: ss, l => upd (mkH ss (r.mk l).2) i (r.mk l).1
def Shape.st (s : Shape) (v : Leafs s.ks) : St :=
  ⟨(mkT s.t (unL s.ks v)).1, mkH s.h (mkT s.t (unL s.ks v)).2⟩
def RS.isList : RS → Bool | .list _ _ => true | _ => false
/-- May a slot stand beside the rows that are kept? -/
def Slot.fits (hs : List (Nat × RS)) : Slot → AV → Bool
  | .p _, v => v.ids.all fun i => !(hs.any fun q => Nat.beq q.1 i)
  | .slw id _, _ => hs.any fun q => Nat.beq q.1 id && q.2.isList
  | .ad id _, _ => hs.any fun q => Nat.beq q.1 id
  | .sl id, _ => hs.any fun q => Nat.beq q.1 id && q.2.isList
  | .rw id, _ => hs.any fun q => Nat.beq q.1 id
  | .fn _ cs, _ => cs.all fun c => match c with | .ad id _ => hs.any fun q => Nat.beq q.1 id | _ => true
  | _, _ => true
def CS.of (h : Nat → Option Row) : List CS → List AV → Option (List PV)
  | [], [] => some []
  | .fe k :: cs, v :: vs => (match v with
    | .fe k' x => if k' = k then (match CS.of h cs vs with | some l => some (⟨k', x⟩ :: l) | none => none) else none
    | _ => none)
  | .ad id off :: cs, v :: vs => (match v with
    | .ad id' ver off' => if id' = id ∧ off' = off then (match h id with | some r => if r.ver = ver then CS.of h cs vs else none | none => none) else none
    | _ => none)
  | _, _ => none
def Slot.of (h : Nat → Option Row) : Slot → AV → Option (List PV)
  | .p k, v => match toK h k v with | some x => some [⟨k, x⟩] | none => none
  | .pc k, v => match v with
    | .pc k' x => if k' = k then some [⟨.slice k', x⟩] else none
    | .nilsl => some [⟨.slice k, []⟩]
    | _ => none
  | .slw id fl, v => match v with
    | .slw id' ver fl' => if id' = id ∧ (!fl || fl') = true then (match h id with | some ⟨rv, true, _, .list _ _⟩ => if rv = ver then some [] else none | _ => none) else none
    | .nilsl => (match h id with | none => some [] | _ => none)
    | _ => none
  | .ad id off, v => match v with
    | .ad id' ver off' => if id' = id ∧ off' = off then (match h id with | some r => if r.ver = ver then some [] else none | none => none) else none
    | _ => none
  | .fn f cs, v => match v with | .fn f' vs => if f' = f then CS.of h cs vs else none | _ => none
  | .sl id, v => match v with
    | .sl id' ver off len => if id' = id then (match h id with | some ⟨rv, true, _, .list _ _⟩ => if rv = ver then some [⟨.int .i64, (off : Int)⟩, ⟨.int .i64, (len : Int)⟩] else none | _ => none) else none
    | _ => none
  | .fe k, v => match v with | .fe k' x => if k' = k then some [⟨k', x⟩] else none | _ => none
  | .rw id, v => match v with
    | .rw id' ver => if id' = id then (match h id with | some r => if r.ver = ver then some [] else none | none => none) else none
    | _ => none
def Slot.ofs (hs : List (Nat × RS)) (h : Nat → Option Row) : List Slot → List AV → Option (List PV)
  | [], [] => some []
  | s :: ss, v :: vs => if s.fits hs v = true then (match s.of h v with
    | some l => (match Slot.ofs hs h ss vs with | some l' => some (l ++ l') | none => none)
    | none => none) else none
  | _, _ => none
def RS.of (hs : List (Nat × RS)) (h : Nat → Option Row) (i : Nat) : RS → Option (List PV)
  | .list ty k => match h i with
    | some ⟨_, true, ty', .list k' xs⟩ => if k' = k ∧ ty' = ty then some [⟨.slice k', xs⟩] else none
    | none => some [⟨.slice k, []⟩]
    | _ => none
  | .cells ty ss => match h i with
    | some ⟨_, true, ty', .cells cs⟩ => if ty' = ty then Slot.ofs hs h ss cs else none
    | _ => none
  | .agg ty k => match h i with
    | some ⟨_, true, ty', .cells cs⟩ => if ty' = ty ∧ ((AV.idss cs).all fun i => !(hs.any fun q => Nat.beq q.1 i)) = true then (match unflat h k cs with | some (x, []) => some [⟨k, x⟩] | _ => none) else none
    | _ => none
def gatherT (hs : List (Nat × RS)) (s : St) : List (Nat × Slot) → Option (List PV)
  | [] => some []
  | (i, sl) :: ss => if sl.fits hs (s.t i) = true then (match sl.of s.h (s.t i) with
    | some l => (match gatherT hs s ss with | some l' => some (l ++ l') | none => none)
    | none => none) else none
def gatherH (hs : List (Nat × RS)) (h : Nat → Option Row) : List (Nat × RS) → Option (List PV)
  | [] => some []
  | (i, r) :: ss => match r.of hs h i with
    | some l => (match gatherH hs h ss with | some l' => some (l ++ l') | none => none)
    | none => none
def nodup : List Nat → Bool
  | [] => true
  | i :: l => !l.contains i && nodup l
def Shape.of (σ : Shape) (s : St) : Option (Leafs σ.ks) :=
  match gatherT σ.h s σ.t, gatherH σ.h s.h σ.h with
  | some l, some l' => if nodup (σ.h.map (·.1)) = true then leafs σ.ks (l ++ l') else none
  | _, _ => none
/-- What is handed back: plain data; a slice whose capacity is its length; a row of the call's own. -/
inductive RM where
  | v (k : K) | c (k : K) | o (ty : Nat) (k : K) (fl : Bool) | b (j ty : Nat) (k : K) | r (j ty : Nat) (k : K)
def RM.k : RM → K | .v k => k | .c k => .slice k | .o _ k _ => .slice k | .b _ _ k => k | .r _ _ k => .slice k
def RM.ks : List RM → List K
  | [] => []
  | m :: ms => m.k :: RM.ks ms
def numO : List RM → Nat
  | [] => 0
  | .o _ _ _ :: l => numO l + 1
  | _ :: l => numO l
/-- A captured place that comes in: only read, or a box that is written (the j-th of the rows that are handed in and out). -/
inductive CM where
  | ro (k : K) | io (j ty : Nat) (k : K)
def CM.k : CM → K | .ro k => k | .io _ _ k => k
/-- What comes in: plain data; a place that is only read; a known function with captured places; a box that is written; a row that is written; a part of one. -/
inductive IM where
  | v (k : K) | pl (k : K) | f (g : Nat) (cs : List CM) | b (j ty : Nat) (k : K) | r (j ty : Nat) (k : K) (fl : Bool) | s (j ty : Nat) (k : K)
def CM.ks : List CM → List K
  | [] => []
  | c :: l => c.k :: CM.ks l
def IM.ks : List IM → List K
  | [] => []
  | .v k :: l | .pl k :: l => k :: IM.ks l
  | .f _ cs :: l => CM.ks cs ++ IM.ks l
  | .b _ _ k :: l => k :: IM.ks l
  | .r _ _ k _ :: l => .slice k :: IM.ks l
  | .s _ _ k :: l => .slice k :: .int .i64 :: .int .i64 :: IM.ks l
/-- What a callee does: plain data in, plain data out. -/
structure Spec where
  ins : List IM
  outs : List RM
  f : Leafs (IM.ks ins) → Option (Leafs (RM.ks outs))
structure Cut (R : Type) where
  i : Shape
  o : Shape
  g : Leafs i.ks → Option (Leafs o.ks ⊕ R)
/-- A loop out of which a way leads to an outer block, too. -/
structure CutX (R : Type) where
  i : Shape
  o : Shape
  j : Nat
  q : Shape
  g : Leafs i.ks → Option (Leafs o.ks ⊕ (Leafs q.ks ⊕ R))
structure CutN where
  i : Shape
  o : Shape
  g : Leafs i.ks → Option (Leafs o.ks)
/-- The tables of a function: types, callees, loops (by the block around them), joins, results. -/
structure Env (outs : List RM) where
  τ : Nat → Option Ty
  n : Nat
  Γ : Nat → Option Spec
  res : List ResultVar
  loopN : Nat → Option CutN
  loopR : Nat → Option (Cut (Leafs (RM.ks outs)))
  join : Nat → Option Shape
  loopX : Nat → Option (CutX (Leafs (RM.ks outs)))
  unroll : Nat → Option Nat
def capOf (h : Nat → Option Row) (k : K) : AV → Option (T k)
  | .fe k' x => if e : k' = k then some (K.castT e x) else none
  | .ad id ver off => match h id with
    | some ⟨rv, _, _, .cells cs⟩ => if rv = ver ∧ off + k.cells ≤ cs.length then (if k.agg = true then toK noRows k (.agg ((cs.drop off).take k.cells)) else match cs[off]? with | some v => toK noRows k v | none => none) else none
    | _ => none
  | _ => none
/-- What a box of a type holds. -/
def boxOf (h : Nat → Option Row) (ty : Nat) (k : K) : AV → Option (T k)
  | .ad id ver 0 => match h id with
    | some ⟨rv, true, ty', .cells cs⟩ => if rv = ver ∧ ty' = ty then (match unflat h k cs with | some (x, []) => some x | _ => none) else none
    | _ => none
  | _ => none
def capsOf (h : Nat → Option Row) : List CM → List AV → Option (List PV)
  | [], [] => some []
  | .ro k :: ks, v :: vs => match capOf h k v with
    | some x => (match capsOf h ks vs with | some l => some (⟨k, x⟩ :: l) | none => none)
    | none => none
  | .io _ ty k :: ks, v :: vs => match boxOf h ty k v with
    | some x => (match capsOf h ks vs with | some l => some (⟨k, x⟩ :: l) | none => none)
    | none => none
  | _, _ => none
def argsOf (h : Nat → Option Row) : List IM → List AV → Option (List PV)
  | [], [] => some []
  | .v k :: is, v :: vs => match toK h k v with
    | some x => (match argsOf h is vs with | some l' => some (⟨k, x⟩ :: l') | none => none)
    | none => none
  | .pl k :: is, v :: vs => match capOf h k v with
    | some x => (match argsOf h is vs with | some l' => some (⟨k, x⟩ :: l') | none => none)
    | none => none
  | .f g ks :: is, .fn g' cs :: vs => if g' = g then (match capsOf h ks cs with
    | some l => (match argsOf h is vs with | some l' => some (l ++ l') | none => none)
    | none => none) else none
  | .b _ ty k :: is, v :: vs => match boxOf h ty k v with
    | some x => (match argsOf h is vs with | some l' => some (⟨k, x⟩ :: l') | none => none)
    | none => none
  | .r _ ty k fl :: is, .slw id ver fl' :: vs => match h id with
    | some ⟨rv, true, ty', .list k' xs⟩ => if rv = ver ∧ ty' = ty ∧ k' = k ∧ (!fl || fl') = true then (match argsOf h is vs with | some l' => some (⟨.slice k', xs⟩ :: l') | none => none) else none
    | _ => none
  | .s _ ty k :: is, .sl id ver off len :: vs => match h id with
    | some ⟨rv, true, ty', .list k' xs⟩ => if rv = ver ∧ ty' = ty ∧ k' = k then (match argsOf h is vs with | some l' => some (⟨.slice k', xs⟩ :: ⟨.int .i64, (off : Int)⟩ :: ⟨.int .i64, (len : Int)⟩ :: l') | none => none) else none
    | _ => none
  | _, _ => none
/-- The rows that are handed in to be written, and those of which data is handed in. -/
def capIds : List CM → List AV → List (Nat × Nat)
  | .io j _ _ :: cs, v :: vs => v.ids.map (j, ·) ++ capIds cs vs
  | .ro _ :: cs, _ :: vs => capIds cs vs
  | _, _ => []
def ioIds : List IM → List AV → List (Nat × Nat)
  | .b j _ _ :: is, v :: vs | .r j _ _ _ :: is, v :: vs | .s j _ _ :: is, v :: vs => v.ids.map (j, ·) ++ ioIds is vs
  | .f _ cs :: is, .fn _ us :: vs => capIds cs us ++ ioIds is vs
  | _ :: is, _ :: vs => ioIds is vs
  | _, _ => []
def capRo : List CM → List AV → List Nat
  | .ro _ :: cs, v :: vs => v.ids ++ capRo cs vs
  | .io _ _ _ :: cs, _ :: vs => capRo cs vs
  | _, _ => []
def roIds : List IM → List AV → List Nat
  | .v _ :: is, v :: vs | .pl _ :: is, v :: vs => v.ids ++ roIds is vs
  | .f _ cs :: is, .fn _ us :: vs => capRo cs us ++ roIds is vs
  | _ :: is, _ :: vs => roIds is vs
  | _, _ => []
def inner (h : Nat → Option Row) : List Nat → List Nat
  | [] => []
  | i :: l => match h i with
    | some ⟨_, _, _, .cells cs⟩ => AV.idss cs ++ inner h l
    | _ => inner h l
def verOf (h : Nat → Option Row) (i : Nat) : Nat := match h i with | some r => r.ver | none => 0
/-- The rows that are written by a callee, as it leaves them. -/
def ioUpd (h : Nat → Option Row) : List (Nat × Nat) → List RM → List PV → List (Nat × Row)
  | q :: io, .b _ ty _ :: rs, p :: l => (q.2, ⟨verOf h q.2, true, ty, .cells (flat p.k p.v)⟩) :: ioUpd h io rs l
  | q :: io, .r _ ty _ :: rs, ⟨.slice k, xs⟩ :: l => (q.2, ⟨verOf h q.2, true, ty, .list k xs⟩) :: ioUpd h io rs l
  | io, _ :: rs, _ :: l => ioUpd h io rs l
  | _, _, _ => []
/-- What is handed in and out: boxes and rows. -/
def capIo : List CM → List (Nat × Bool × Nat × K)
  | [] => []
  | .io j ty k :: l => (j, true, ty, k) :: capIo l
  | .ro _ :: l => capIo l
def ioIns : List IM → List (Nat × Bool × Nat × K)
  | [] => []
  | .b j ty k :: l => (j, true, ty, k) :: ioIns l
  | .r j ty k _ :: l | .s j ty k :: l => (j, false, ty, k) :: ioIns l
  | .f _ cs :: l => capIo cs ++ ioIns l
  | _ :: l => ioIns l
def ioOuts : List RM → List (Nat × Bool × Nat × K)
  | [] => []
  | .b j ty k :: l => (j, true, ty, k) :: ioOuts l
  | .r j ty k :: l => (j, false, ty, k) :: ioOuts l
  | _ :: l => ioOuts l
/-- Results as values: rows handed over get the numbers 1000000 + dst * 16 + place. -/
def resV (d : Nat) (h : Nat → Option Row) : Nat → List RM → List PV → List AV × List (Nat × Row)
  | i, r :: rs, v :: vs =>
    let q := resV d h (i + 1) rs vs
    match r, v with
    | .o ty _ fl, ⟨.slice k, xs⟩ => (.slw (1000000 + d * 16 + i) (nver h (1000000 + d * 16 + i)) fl :: q.1, (1000000 + d * 16 + i, ⟨nver h (1000000 + d * 16 + i), true, ty, .list k xs⟩) :: q.2)
    | .c _, ⟨.slice k, xs⟩ => (.pc k xs :: q.1, q.2)
    | .b _ _ _, _ | .r _ _ _, _ => q
    | _, v => (.p v.k v.v :: q.1, q.2)
  | _, _, _ => ([], [])
def resOf (l : List AV) : AV := match l with | [v] => v | vs => .tup vs
def farRM : List RM → Bool
  | [] => false
  | .v k :: l | .b _ _ k :: l | .r _ _ k :: l => k.far || farRM l
  | _ :: _ => true
/-- The rows that a value leads to, and what they lead to. -/
def reach (h : Nat → Option Row) (l : List Nat) : List Nat :=
  l ++ l.flatMap fun i => match h i with | some ⟨_, _, _, .cells cs⟩ => AV.idss cs | _ => []
/-- The rows that an operation may look at. -/
def foot (s : St) (o : Oper) : List Nat :=
  let l := match o.op with | .move _ | .assign _ => [] | .call _ => reach s.h (o.op.operands.toList.flatMap fun x => (s.ev x).ids) | _ => o.op.operands.toList.flatMap fun x => (s.ev x).ids
  match o.dst with
  | some d => match o.op with
    | .call _ => d :: (List.range 8).map (1000000 + d * 16 + ·) ++ l
    | _ => d :: l
  | none => l
def restr (f : List Nat) (h : Nat → Option Row) : Nat → Option Row := fun i => bif f.contains i then h i else none
section
variable {outs : List RM} (e : Env outs) {X : Type}
def disj (a b : List Nat) : Bool := a.all fun i => !b.contains i
def nodups : List Nat → Bool
  | [] => true
  | i :: l => !l.contains i && nodups l
/-- The rows that are frozen by a call. -/
def callF (h : Nat → Option Row) (sp : Spec) (args : List AV) : List (Nat × Row) :=
  freeze h ((if farRM sp.outs = true then roIds sp.ins args else []) ++ inner h ((ioIds sp.ins args).map (·.2)))
def callE (h : Nat → Option Row) (dst : Option Tmp) (f : Nat) (args : List AV) : Dec Eff :=
  match e.Γ f, dst with
  | some sp, some d => if sp.outs.length ≤ 8 ∧ numO sp.outs ≤ 1 ∧ nodups ((ioIds sp.ins args).map (·.1)) = true ∧ nodups ((ioIds sp.ins args).map (·.2)) = true ∧ disj ((ioIds sp.ins args).map (·.2)) ((List.range 8).map (1000000 + d * 16 + ·) ++ roIds sp.ins args ++ inner h ((ioIds sp.ins args).map (·.2))) = true then (match argsOf (hupd h (callF h sp args)) sp.ins args with
    | some l => match leafs (IM.ks sp.ins) l with
      | some v => Dec.bind (sp.f v) fun r => .ret ⟨resOf (resV d h 0 sp.outs (unL (RM.ks sp.outs) r)).1, callF h sp args ++ (ioUpd h (ioIds sp.ins args) sp.outs (unL (RM.ks sp.outs) r) ++ (resV d h 0 sp.outs (unL (RM.ks sp.outs) r)).2)⟩
      | none => .fail
    | none => .fail) else .fail
  | _, _ => .fail
def effE (ev : Operand → AV) (h : Nat → Option Row) (o : Oper) : Dec Eff :=
  match o.op with
  | .call { callee := .value f, args := as, .. } => match ev f with
    | .fn f caps => callE e h o.dst f (as.toList.map ev ++ caps)
    | _ => .fail
  | _ => effS e.τ ev h o
def St.app (s : St) (dst : Option Tmp) (E : Eff) : St := ⟨putD s.t dst E.v, hupd s.h E.u⟩
def okDst (n : Nat) : Option Tmp → Bool
  | some d => Nat.blt d n
  | none => true
/-- The rows that an operation lays into a row of data: they are not written any more. -/
def laid (ev : Operand → AV) (o : Oper) : List Nat :=
  match o.op with
  | .buildSlice _ _ ps => ps.toList.flatMap fun p => (ev p.2).ids
  | .store _ a x => match ev a with | .el _ _ _ _ => (ev x).ids | _ => []
  | _ => []
def Dec.pre (F : List (Nat × Row)) : Dec Eff → Dec Eff
  | .fail => .fail
  | .ret E => .ret ⟨E.v, F ++ E.u⟩
  | .ite b x y => .ite b (x.pre F) (y.pre F)
  | .bind o k => .bind o fun b => (k b).pre F
theorem Dec.pre_sem (F : List (Nat × Row)) : ∀ d : Dec Eff, (d.pre F).sem = d.sem.map fun E => ⟨E.v, F ++ E.u⟩
  | .fail => rfl
  | .ret E => rfl
  | .ite b x y => by cases b <;> simp [Dec.pre, Dec.sem, Dec.pre_sem F x, Dec.pre_sem F y]
  | .bind o k => by cases o with
    | none => rfl
    | some b => simp [Dec.pre, Dec.sem, Dec.pre_sem F (k b)]
def opE (s : St) (o : Oper) : Dec Eff :=
  bif okDst e.n o.dst then (effE e s.ev (hupd (restr (foot s o) s.h) (freeze (restr (foot s o) s.h) (laid s.ev o))) o).pre (freeze (restr (foot s o) s.h) (laid s.ev o)) else .fail
/-- An operation, its guard before it. -/
def opG (ops : Array Oper) (s : St) (o : Oper) : Dec Eff :=
  match o.guard with
  | none => opE e s o
  | some (g, want) => match (ops[g]?).bind (·.dst) with
    | none => .fail
    | some t => match s.ev (.tmp t) with
      | .p .bool b => if b = want then opE e s o else (bif okDst e.n o.dst then .ret ⟨.tup [], []⟩ else .fail)
      | .tup [] => bif okDst e.n o.dst then .ret ⟨.tup [], []⟩ else .fail
      | _ => .fail
/-- The guard's truth, told. -/
def told (ops : Array Oper) (s : St) (o : Oper) (c : St → Option X) : Option X :=
  match o.guard with
  | none => c s
  | some (g, _) => match (ops[g]?).bind (·.dst) with
    | none => none
    | some t => match s.ev (.tmp t) with
      | .p .bool b => if b = true then c ⟨upd s.t t (.p .bool true), s.h⟩ else c ⟨upd s.t t (.p .bool false), s.h⟩
      | .tup [] => c s
      | _ => none
def opsE (ops : Array Oper) : List Oper → St → (St → Option X) → Option X
  | [], s, c => c s
  | o :: l, s, c => told ops s o fun s => (opG e ops s o).run fun E => opsE ops l (s.app o.dst E) c
/-- Operations whose order is open: the effect of each on what the others look at is nothing. -/
structure Done where
  i : Nat
  o : Oper
  w : List Nat
  f : List Nat
def looks (ops : Array Oper) (o : Oper) : List Tmp :=
  (o.op.operands.toList.filterMap fun | .tmp t => some t | _ => none) ++
  (match o.guard with
   | some (g, _) => ((ops[g]?).bind (·.dst)).toList
   | none => [])
def indep (ops : Array Oper) (a b : Done) : Bool :=
  disj a.o.dst.toList (looks ops b.o) && disj b.o.dst.toList (looks ops a.o) && disj a.o.dst.toList b.o.dst.toList && disj a.w b.f && disj b.w a.f
def direct (o : Oper) (i : Nat) : Bool := o.after.any fun x => Region.binds .any x && Nat.beq x.on i
/-- Must it come before, by some edges? -/
def anc (ops : Array Oper) : Nat → Oper → Nat → Bool
  | 0, _, _ => false
  | n + 1, o, i => o.after.any fun x => Region.binds .any x && (Nat.beq x.on i || (match ops[x.on]? with | some p => anc ops n p i | none => false))
def opsD (ops : Array Oper) : Nat → List Oper → List Done → St → (St → Option X) → Option X
  | _, [], _, s, c => c s
  | i, o :: l, ds, s, c => told ops s o fun s => (opG e ops s o).run fun E =>
    let d : Done := ⟨i, o, E.u.map (·.1), E.u.map (·.1) ++ foot s o⟩
    bif (ds.all fun d' => direct o d'.i || indep ops d' d || anc ops 5 o d'.i) && (o.after.all fun x => !Region.binds .any x || Nat.blt x.on i) then opsD ops (i + 1) l (d :: ds) (s.app o.dst E) c else none
/-- The results. -/
def resAV (s : St) : ResultVar → AV
  | .tmp t => s.ev (.tmp t)
  | .cell a t => match s.ev (.tmp a), e.τ t with
    | .ad id ver off, some ty => match s.h id with
      | some ⟨rv, _, _, .cells cs⟩ => if rv = ver ∧ off + ty.k.cells ≤ cs.length then (if ty.k.agg = true then .agg ((cs.drop off).take ty.k.cells) else (cs[off]?).getD .u) else .u
      | some ⟨rv, _, _, .list k xs⟩ => match ty.k, off with
        | .arr n k', 0 => if rv = ver ∧ k' = k then .p (.arr n k) xs else .u
        | _, _ => .u
      | _ => .u
    | _, _ => .u
/-- Is a result that is an array as long as it should be? -/
def lenG1 (s : St) : ResultVar → Option Bool
  | .tmp _ => none
  | .cell a t => match s.ev (.tmp a), e.τ t with
    | .ad id _ _, some ty => match s.h id with
      | some ⟨_, _, _, .list _ xs⟩ => match ty.k with
        | .arr n _ => some (decide ((xs.length : Int) = n))
        | _ => none
      | _ => none
    | _, _ => none
def lenG (s : St) : List ResultVar → Option Bool
  | [] => none
  | r :: rs => match lenG1 e s r, lenG s rs with
    | none, x => x
    | some b, none => some b
    | some b, some c => some (b && c)
def outIds (s : St) : List RM → List ResultVar → List Nat
  | .b j _ _ :: ms, rs | .r j _ _ :: ms, rs => (s.t (5000000 + j)).ids ++ outIds s ms rs
  | .o _ _ _ :: ms, r :: rs => (resAV e s r).ids ++ outIds s ms rs
  | _ :: ms, _ :: rs => outIds s ms rs
  | _, _ => []
def resE (s : St) (O : List Nat) : List RM → List ResultVar → Option (List PV)
  | [], [] => some []
  | .b j ty k :: ms, rs => match resE s O ms rs with
    | none => none
    | some l => match s.t (5000000 + j) with
      | .rw id ver => match s.h id with
        | some ⟨rv, true, ty', .cells cs⟩ => if rv = ver ∧ ty' = ty ∧ disj (AV.idss cs) O = true then (match unflat s.h k cs with | some (x, []) => some (⟨k, x⟩ :: l) | _ => none) else none
        | _ => none
      | _ => none
  | .r j ty k :: ms, rs => match resE s O ms rs with
    | none => none
    | some l => match s.t (5000000 + j) with
      | .rw id ver => match s.h id with
        | some ⟨rv, true, ty', .list k' xs⟩ => if rv = ver ∧ ty' = ty ∧ k' = k then some (⟨.slice k', xs⟩ :: l) else none
        | _ => none
      | _ => none
  | m :: ms, r :: rs => match resE s O ms rs with
    | none => none
    | some l => match m, resAV e s r with
      | .v k, v => if disj v.ids O = true then (match toK s.h k v with | some x => some (⟨k, x⟩ :: l) | none => none) else none
      | .c k, .pc k' x => if k' = k then some (⟨.slice k', x⟩ :: l) else none
      | .c k, .nilsl => some (⟨.slice k, []⟩ :: l)
      | .o ty k fl, .slw id ver fl' => match s.h id with
        | some ⟨rv, true, ty', .list k' xs⟩ => if rv = ver ∧ k' = k ∧ ty' = ty ∧ (!fl || fl') = true then some (⟨.slice k', xs⟩ :: l) else none
        | _ => none
      | .o ty k fl, .nilsl => some (⟨.slice k, []⟩ :: l)
      | _, _ => none
  | _, _ => none
def fin (s : St) : Option (Leafs (RM.ks outs)) :=
  if nodup (outIds e s outs e.res) = true then (match lenG e s e.res, resE e s (outIds e s outs e.res) outs e.res with
  | none, some l => leafs (RM.ks outs) l
  | some b, some l => if b = true then leafs (RM.ks outs) l else none
  | _, none => none) else none
def firstRegion : Code → Option Nat
  | .region id _ _ => some id
  | .seq a b => (firstRegion a).or (firstRegion b)
  | .block _ c | .loop c | .scope c => firstRegion c
  | .cond _ a b => (firstRegion a).or (firstRegion b)
  | _ => none
/-- Is there a way out of the code that is not its end? -/
def jumps : List Nat → Code → Bool
  | _, .ret => true
  | bs, .exit i => !bs.contains i
  | bs, .seq a b | bs, .cond _ a b => jumps bs a || jumps bs b
  | bs, .block i c => jumps (i :: bs) c
  | bs, .loop c | bs, .scope c => jumps bs c
  | _, .goto _ | _, .label _ | _, .refuse _ | _, .rangeFunc .. => true
  | _, _ => false
def unrollE {X : Type} (f : (St → Option X) → St → Option X) : Nat → St → Option X
  | 0, _ => none
  | m + 1, s => f (unrollE f m) s
def codeE : Code → {X : Type} → (ex : Nat → St → Option X) → (rt : Leafs (RM.ks outs) → Option X) → (n : St → Option X) → St → Option X
  | .skip, _, _, _, n, s => n s
  | .ret, _, _, rt, _, s => (fin e s).bind rt
  | .exit i, _, ex, _, _, s => ex i s
  | .region _ ops false, _, _, _, n, s => opsE e ops ops.toList s n
  | .region _ ops true, _, _, _, n, s => opsD e ops 0 ops.toList [] s n
  | .cond c a b, _, ex, rt, n, s => match s.ev c with
    | .p .bool t => if t = true then codeE a ex rt n s else codeE b ex rt n s
    | _ => none
  | .scope c, _, ex, rt, n, s => codeE c ex rt n s
  | .label _, _, _, _, n, s => n s
  | .block i (.loop c), _, ex, rt, n, s => match e.unroll i with
   | some m => unrollE (fun back s => codeE c (fun j s => if j = i then n s else ex j s) rt back s) m s
   | none => match e.loopN i with
    | some L => (L.i.of s).bind fun v => (L.g v).bind fun y => n (L.o.st y)
    | none => match e.loopR i with
      | some L => (L.i.of s).bind fun v => (L.g v).bind fun y => match y with | .inl y => n (L.o.st y) | .inr r => rt r
      | none => match e.loopX i with
        | some L => (L.i.of s).bind fun v => (L.g v).bind fun y => match y with | .inl y => n (L.o.st y) | .inr (.inl y) => ex L.j (L.q.st y) | .inr (.inr r) => rt r
        | none => none
  | .block i c, _, ex, rt, n, s => codeE c (fun j s => if j = i then n s else ex j s) rt n s
  | .seq a b, X, ex, rt, n, s => match (firstRegion b).bind e.join with
    | some σ => if jumps [] a = true
      then (codeE a (X := Leafs σ.ks ⊕ X) (fun i s => (ex i s).map .inr) (fun r => (rt r).map .inr) (fun s => (σ.of s).map .inl) s).bind fun y => match y with | .inl v => codeE b ex rt n (σ.st v) | .inr x => some x
      else (codeE a (X := Leafs σ.ks) (fun _ _ => none) (fun _ => none) (fun s => σ.of s) s).bind fun v => codeE b ex rt n (σ.st v)
    | none => codeE a ex rt (fun s => codeE b ex rt n s) s
  | _, _, _, _, _, _ => none
end
end Go.Proofs.Ytkgjchmfiohciaa.Den
