/- States: what a plain state says of a frame and a world. -/
import Derived.Test.YtkgjchmfiohciaaDenR
namespace Go.Proofs.Ytkgjchmfiohciaa.Den
set_option linter.unusedVariables false
set_option linter.unusedSimpArgs false
structure RE where
  w : World
  rd : Nat → Prop
  h : Nat → Option Row
  ρ : Nat → Value
def blk : Value → Option Nat
  | .slice (some a) _ _ => some a.block
  | .pointer (some a) => some a.block
  | _ => none
def RowB.isList : RowB → Prop | .list _ _ => True | _ => False
/-- A place that is read qs data. -/
def FE (w : World) (rd : Nat → Prop) (k : K) (x : T k) (v : Value) : Prop :=
  ∃ b off cs, v = .pointer (some ⟨b, off, none⟩) ∧ RC w rd k x cs ∧ (cs ≠ [] → rd b) ∧ At w b off cs
def isSl : Value → Prop | .slice _ _ _ => True | _ => False
def isSlf (fl : Bool) : Value → Prop | .slice _ l c => fl = true → l = c | _ => False
theorem isSlf.sl {fl : Bool} {v : Value} (h : isSlf fl v) : isSl v := by cases v <;> simp_all [isSlf, isSl]
def isPtr (v : Value) : Prop := ∃ b off, v = .pointer (some ⟨b, off, none⟩)
mutual
def rel (E : RE) : AV → Value → Prop
  | .p k x, v => VR E.w E.rd k x v
  | .pc k x, v => ∃ A, v = .slice A x.length x.length ∧ RC E.w E.rd (.slice k) x [v]
  | .nilsl, v => v = .slice none 0 0
  | .slw id ver fl, v => isSlf fl v ∧ ∃ row, E.h id = some row ∧ ver ≤ row.ver ∧ (row.ver = ver → row.b.isList ∧ v = E.ρ id)
  | .sl id ver off len, v => isSl v ∧ ∃ row, E.h id = some row ∧ ver ≤ row.ver ∧ (row.ver = ver → isSl (E.ρ id) ∧ ∃ k xs A cap, row.b = .list k xs ∧ off + len ≤ xs.length ∧ len ≤ cap ∧ v = .slice A len cap ∧
      (0 < len → ∃ b, blk (E.ρ id) = some b ∧ A = some ⟨b, off * k.cells, none⟩) ∧ (off = 0 → ∀ A' n c, E.ρ id = .slice A' n c → A = A' ∧ cap = c))
  | .sa id ver off len, v => isSl v ∧ ∃ row, E.h id = some row ∧ ver ≤ row.ver ∧ (row.ver = ver → ∃ k xs A cap, row.b = .list k xs ∧ off + len ≤ xs.length ∧ len ≤ cap ∧ v = .slice A len cap ∧
      (0 < len → ∃ b, blk (E.ρ id) = some b ∧ A = some ⟨b, off * k.cells, none⟩))
  | .rw id ver, v => ∃ row, E.h id = some row ∧ ver ≤ row.ver ∧ (row.ver = ver → v = E.ρ id)
  | .ad id ver off, v => isPtr v ∧ ∃ row, E.h id = some row ∧ ver ≤ row.ver ∧ (row.ver = ver → ∃ b, E.ρ id = .pointer (some ⟨b, 0, none⟩) ∧ v = .pointer (some ⟨b, off, none⟩))
  | .el id ver i off, v => isPtr v ∧ ∃ row, E.h id = some row ∧ ver ≤ row.ver ∧ (row.ver = ver → ∃ k xs b, row.b = .list k xs ∧ i < xs.length ∧ blk (E.ρ id) = some b ∧ v = .pointer (some ⟨b, i * k.cells + off, none⟩))
  | .fe k x, v => FE E.w E.rd k x v
  | .agg cs, v => ∃ c, v = .agg c ∧ rels E cs c.toList
  | .tup vs, v => ∃ c, v = .tuple c ∧ rels E vs c.toList
  | .fn f caps, v => ∃ c, v = .func (.func f) #[] c ∧ rels E caps c.toList
  | .u, v => True
def rels (E : RE) : List AV → List Value → Prop
  | [], l => l = []
  | a :: qs, l => ∃ v l', l = v :: l' ∧ rel E a v ∧ rels E qs l'
end
theorem rels_len {E : RE} : ∀ {qs : List AV} {l}, rels E qs l → l.length = qs.length
  | [], l, h => by simp only [rels] at h; subst h; rfl
  | a :: qs, l, h => by
    obtain ⟨v, l', rfl, _, h2⟩ := h
    simp [rels_len h2]
theorem rels_get {E : RE} : ∀ {qs : List AV} {l} {i : Nat} {a : AV}, rels E qs l → qs[i]? = some a → ∃ v, l[i]? = some v ∧ rel E a v
  | [], l, i, a, h, hi => by simp at hi
  | a :: qs, l, 0, b, h, hi => by
    obtain ⟨v, l', rfl, h1, h2⟩ := h
    simp at hi
    subst hi
    exact ⟨v, by simp, h1⟩
  | a :: qs, l, i + 1, b, h, hi => by
    obtain ⟨v, l', rfl, h1, h2⟩ := h
    simp at hi
    obtain ⟨u, hu, hr⟩ := rels_get h2 hi
    exact ⟨u, by simpa using hu, hr⟩
theorem rels_append {E : RE} : ∀ {qs bs : List AV} {l m}, rels E qs l → rels E bs m → rels E (qs ++ bs) (l ++ m)
  | [], bs, l, m, h1, h2 => by simp only [rels] at h1; subst h1; simpa using h2
  | a :: qs, bs, l, m, h1, h2 => by
    obtain ⟨v, l', rfl, h1, h3⟩ := h1
    exact ⟨v, l' ++ m, by simp, h1, rels_append h3 h2⟩
theorem rels_split {E : RE} : ∀ {qs bs : List AV} {l}, rels E (qs ++ bs) l → ∃ c d, l = c ++ d ∧ rels E qs c ∧ rels E bs d
  | [], bs, l, h => ⟨[], l, by simp, by simp [rels], h⟩
  | a :: qs, bs, l, h => by
    obtain ⟨v, l', rfl, h1, h2⟩ := h
    obtain ⟨c, d, rfl, h3, h4⟩ := rels_split h2
    exact ⟨v :: c, d, by simp, ⟨v, c, rfl, h1, h3⟩, h4⟩
theorem rels_take {E : RE} : ∀ {qs : List AV} {l} (n : Nat), rels E qs l → rels E (qs.take n) (l.take n)
  | [], l, n, h => by simp only [rels] at h; subst h; simp [rels]
  | a :: qs, l, 0, h => by simp [rels]
  | a :: qs, l, n + 1, h => by
    obtain ⟨v, l', rfl, h1, h2⟩ := h
    exact ⟨v, l'.take n, by simp, h1, rels_take n h2⟩
theorem rels_drop {E : RE} : ∀ {qs : List AV} {l} (n : Nat), rels E qs l → rels E (qs.drop n) (l.drop n)
  | [], l, n, h => by simp only [rels] at h; subst h; simp [rels]
  | a :: qs, l, 0, h => by simpa using h
  | a :: qs, l, n + 1, h => by
    obtain ⟨v, l', rfl, h1, h2⟩ := h
    simpa using rels_drop n h2
def RowB.like : RowB → RowB → Prop
  | .cells a, .cells b => a.length = b.length
  | .list k xs, .list k' ys => k = k' ∧ xs.length = ys.length
  | _, _ => False
theorem RowB.like_refl (b : RowB) : b.like b := by cases b <;> simp [RowB.like]
structure Mono (E E' : RE) : Prop where
  rd : ∀ b, E.rd b → E'.rd b ∧ E'.w.heap[b]? = E.w.heap[b]?
  row : ∀ id row, E.h id = some row → ∃ row', E'.h id = some row' ∧ row.ver ≤ row'.ver ∧ (row'.ver = row.ver → row.b.like row'.b ∧ E'.ρ id = E.ρ id)
theorem Mono.refl (E : RE) : Mono E E := ⟨fun b h => ⟨h, rfl⟩, fun id row h => ⟨row, h, Nat.le_refl _, fun _ => ⟨RowB.like_refl _, rfl⟩⟩⟩
theorem FE_mono {w w' : World} {rd rd' : Nat → Prop} (hm : ∀ b, rd b → rd' b ∧ w'.heap[b]? = w.heap[b]?) {k : K} {x : T k} {v : Value} (h : FE w rd k x v) : FE w' rd' k x v := by
  obtain ⟨b, off, cs, rfl, hc, hr, ha⟩ := h
  refine ⟨b, off, cs, rfl, RC_mono hm hc, fun hn => (hm b (hr hn)).1, fun j u hu => ?_⟩
  have hne : cs ≠ [] := by rintro rfl; simp at hu
  rw [World.cell?_of_block (w := w) (w' := w') (a := ⟨b, off + j, none⟩) (hm b (hr hne)).2]
  exact ha j u hu
mutual
theorem rel_mono {E E' : RE} (m : Mono E E') : ∀ {a : AV} {v : Value}, rel E a v → rel E' a v
  | .p k x, v, h => VR_mono m.rd h
  | .pc k x, v, h => by
    obtain ⟨A, rfl, h⟩ := h
    exact ⟨A, rfl, RC_mono m.rd h⟩
  | .nilsl, v, h => h
  | .slw id ver fl, v, h => by
    obtain ⟨hsh, row, h1, h2, h3⟩ := h
    obtain ⟨row', g1, g2, g3⟩ := m.row id row h1
    refine ⟨hsh, row', g1, Nat.le_trans h2 g2, fun hv => ?_⟩
    have hv' : row.ver = ver := by omega
    obtain ⟨g4, g5⟩ := g3 (by omega)
    obtain ⟨h4, h5⟩ := h3 hv'
    refine ⟨?_, by rw [g5]; exact h5⟩
    cases hb : row.b with
    | cells cs => rw [hb] at h4; simp [RowB.isList] at h4
    | list k xs =>
      rw [hb] at g4
      cases hb' : row'.b with
      | cells cs => rw [hb'] at g4; simp [RowB.like] at g4
      | list k xs => simp [RowB.isList]
  | .sl id ver off len, v, h => by
    obtain ⟨hsh, row, h1, h2, h3⟩ := h
    obtain ⟨row', g1, g2, g3⟩ := m.row id row h1
    refine ⟨hsh, row', g1, Nat.le_trans h2 g2, fun hv => ?_⟩
    have hv' : row.ver = ver := by omega
    obtain ⟨g4, g5⟩ := g3 (by omega)
    obtain ⟨h8, k, xs, A, cap, hb, h4, h5, rfl, h6, h7⟩ := h3 hv'
    rw [hb] at g4
    cases hb' : row'.b with
    | cells cs => rw [hb'] at g4; simp [RowB.like] at g4
    | list k' ys =>
      rw [hb'] at g4
      obtain ⟨rfl, hl⟩ := g4
      exact ⟨by rw [g5]; exact h8, k, ys, A, cap, rfl, by omega, h5, rfl, by rw [g5]; exact h6, by rw [g5]; exact h7⟩
  | .sa id ver off len, v, h => by
    obtain ⟨hsh, row, h1, h2, h3⟩ := h
    obtain ⟨row', g1, g2, g3⟩ := m.row id row h1
    refine ⟨hsh, row', g1, Nat.le_trans h2 g2, fun hv => ?_⟩
    have hv' : row.ver = ver := by omega
    obtain ⟨g4, g5⟩ := g3 (by omega)
    obtain ⟨k, xs, A, cap, hb, h4, h5, rfl, h6⟩ := h3 hv'
    rw [hb] at g4
    cases hb' : row'.b with
    | cells cs => rw [hb'] at g4; simp [RowB.like] at g4
    | list k' ys =>
      rw [hb'] at g4
      obtain ⟨rfl, hl⟩ := g4
      exact ⟨k, ys, A, cap, rfl, by omega, h5, rfl, by rw [g5]; exact h6⟩
  | .rw id ver, v, h => by
    obtain ⟨row, h1, h2, h3⟩ := h
    obtain ⟨row', g1, g2, g3⟩ := m.row id row h1
    refine ⟨row', g1, Nat.le_trans h2 g2, fun hv => ?_⟩
    obtain ⟨g4, g5⟩ := g3 (by omega)
    rw [g5]
    exact h3 (by omega)
  | .ad id ver off, v, h => by
    obtain ⟨hsh, row, h1, h2, h3⟩ := h
    obtain ⟨row', g1, g2, g3⟩ := m.row id row h1
    refine ⟨hsh, row', g1, Nat.le_trans h2 g2, fun hv => ?_⟩
    have hv' : row.ver = ver := by omega
    obtain ⟨g4, g5⟩ := g3 (by omega)
    rw [g5]
    exact h3 hv'
  | .el id ver i off, v, h => by
    obtain ⟨hsh, row, h1, h2, h3⟩ := h
    obtain ⟨row', g1, g2, g3⟩ := m.row id row h1
    refine ⟨hsh, row', g1, Nat.le_trans h2 g2, fun hv => ?_⟩
    have hv' : row.ver = ver := by omega
    obtain ⟨g4, g5⟩ := g3 (by omega)
    obtain ⟨k, xs, b, hb, h4, h5, rfl⟩ := h3 hv'
    rw [hb] at g4
    cases hb' : row'.b with
    | cells cs => rw [hb'] at g4; simp [RowB.like] at g4
    | list k' ys =>
      rw [hb'] at g4
      obtain ⟨rfl, hl⟩ := g4
      exact ⟨k, ys, b, rfl, by omega, by rw [g5]; exact h5, rfl⟩
  | .fe k x, v, h => FE_mono m.rd h
  | .agg cs, v, h => by
    obtain ⟨c, rfl, h⟩ := h
    exact ⟨c, rfl, rels_mono m h⟩
  | .tup cs, v, h => by
    obtain ⟨c, rfl, h⟩ := h
    exact ⟨c, rfl, rels_mono m h⟩
  | .fn f cs, v, h => by
    obtain ⟨c, rfl, h⟩ := h
    exact ⟨c, rfl, rels_mono m h⟩
  | .u, v, h => trivial
theorem rels_mono {E E' : RE} (m : Mono E E') : ∀ {qs : List AV} {l : List Value}, rels E qs l → rels E' qs l
  | [], l, h => h
  | a :: qs, l, h => by
    obtain ⟨v, l', rfl, h1, h2⟩ := h
    exact ⟨v, l', rfl, rel_mono m h1, rels_mono m h2⟩
end
/-- A row of the call's own: behind a slice, or the whole of an array. -/
def World.holds (w : World) (own : Nat → Prop) (e : TypeId) (size : Nat) (v : Value) (n : Nat) (xs : List Value) : Prop :=
  xs.length = n * size ∧
  ((v = .slice none 0 0 ∧ n = 0) ∨
   ∃ g cap cur, (v = .slice (some ⟨g, 0, none⟩) n cap ∨ v = .pointer (some ⟨g, 0, none⟩) ∧ n = cap) ∧ own g ∧ w.heap[g]? = some (.cells cur e (0, 0)) ∧ n ≤ cap ∧ cap ≤ maxLen ∧ cur.size = cap * size ∧ cur.toList.take (n * size) = xs)
theorem World.ownsRow.holds {w : World} {base : Nat} {own : Nat → Prop} (hb : ∀ b, base ≤ b → own b) {e : TypeId} {size : Nat} {v : Value} {n : Nat} {xs : List Value} (h : w.ownsRow base e size v n xs) : World.holds w own e size v n xs := by
  refine ⟨h.1, ?_⟩
  rcases h.2 with h | ⟨g, cap, cur, h1, h2, h3⟩
  · exact .inl h
  · exact .inr ⟨g, cap, cur, .inl h1, hb g h2, h3⟩
theorem World.ownsRow.holds' {w : World} {base : Nat} {own : Nat → Prop} {e : TypeId} {size : Nat} {v : Value} {n : Nat} {xs : List Value} (h : w.ownsRow base e size v n xs) (hb : ∀ b, blk v = some b → own b) : World.holds w own e size v n xs := by
  refine ⟨h.1, ?_⟩
  rcases h.2 with h | ⟨g, cap, cur, h1, h2, h3⟩
  · exact .inl h
  · exact .inr ⟨g, cap, cur, .inl h1, hb g (by rw [h1]; rfl), h3⟩
theorem World.holds.ownsRow {w : World} {own : Nat → Prop} {e : TypeId} {size : Nat} {v : Value} {n : Nat} {xs : List Value} (h : World.holds w own e size v n xs) (hv : isSl v) : w.ownsRow 0 e size v n xs := by
  refine ⟨h.1, ?_⟩
  rcases h.2 with h | ⟨g, cap, cur, h1, h2, h3⟩
  · exact .inl h
  · rcases h1 with h1 | ⟨h1, _⟩
    · exact .inr ⟨g, cap, cur, h1, Nat.zero_le _, h3⟩
    · subst h1; exact hv.elim
theorem World.holds.own_of {w : World} {own : Nat → Prop} {e : TypeId} {size : Nat} {v : Value} {n : Nat} {xs : List Value} (h : World.holds w own e size v n xs) {b : Nat} (hb : blk v = some b) : own b ∧ b < w.heap.size := by
  rcases h.2 with h | ⟨g, cap, cur, h1, h2, h3, _⟩
  · rw [h.1] at hb; simp [blk] at hb
  · have : g = b := by
      rcases h1 with h1 | ⟨h1, _⟩
      · rw [h1] at hb; simpa [blk] using hb
      · rw [h1] at hb; simpa [blk] using hb
    subst this
    exact ⟨h2, (Array.getElem?_eq_some_iff.1 h3).1⟩
/-- Memory is as it was, but for some blocks, and new ones. -/
structure BelowX (io : Nat → Prop) (B : Nat) (w w' : World) : Prop where
  os : w'.os = w.os
  tape : w'.tape = w.tape
  output : w'.output = w.output
  size : w.heap.size ≤ w'.heap.size
  block : ∀ k, k < B → ¬ io k → w'.heap[k]? = w.heap[k]?
/-- The call: the world when it began, what may be read of it, what may be written, how many places its frame has, what was handed in to be written. -/
structure Cx where
  w0 : World
  ok : Nat → Prop
  io : Nat → Prop
  n : Nat
  vt : Nat → Option Value
  hn : n ≤ 5000000
  hvt : ∀ i, i < 5000000 → vt i = none
def Cx.own (C : Cx) (b : Nat) : Prop := C.w0.heap.size ≤ b ∨ C.io b
def Cx.tv (C : Cx) (a : Act) (i : Nat) : Value := (C.vt i).getD (a.tmps.getD i undef)
theorem Cx.tv_lt {C : Cx} {a : Act} {i : Nat} (h : i < 5000000) : C.tv a i = a.tmps.getD i undef := by rw [Cx.tv, C.hvt i h]; rfl
def Rd (C : Cx) (h : Nat → Option Row) (ρ : Nat → Value) (w : World) : Nat → Prop := fun b =>
  b < w.heap.size ∧ (C.ok b ∨ C.own b) ∧ ∀ id row, h id = some row → row.wr = true → blk (ρ id) ≠ some b
def RowOK (C : Cx) (E : RE) (v : Value) (row : Row) : Prop :=
  match row.b with
  | .cells cs => ∃ b c, v = .pointer (some ⟨b, 0, none⟩) ∧ C.own b ∧ E.w.heap[b]? = some (.cells c row.ty (0, 0)) ∧ rels E cs c.toList
  | .list k xs => ∃ vals, World.holds E.w C.own row.ty k.cells v xs.length vals ∧ RL (RC E.w E.rd k) xs vals ∧ (row.wr = false → ∀ b, blk v = some b → E.rd b)
structure Inv (C : Cx) (ρ : Nat → Value) (s : St) (a : Act) (w : World) : Prop where
  hd : a.defers = []
  sz : a.tmps.size = C.n
  fr : BelowX C.io C.w0.heap.size C.w0 w
  rows : ∀ id row, s.h id = some row → RowOK C ⟨w, Rd C s.h ρ w, s.h, ρ⟩ (ρ id) row
  inj : ∀ id id' r r' b, s.h id = some r → s.h id' = some r' → blk (ρ id) = some b → blk (ρ id') = some b → id = id'
  tm : ∀ i, rel ⟨w, Rd C s.h ρ w, s.h, ρ⟩ (s.t i) (C.tv a i)
abbrev envOf (C : Cx) (ρ : Nat → Value) (h : Nat → Option Row) (w : World) : RE := ⟨w, Rd C h ρ w, h, ρ⟩
theorem upd_same {α : Type} (f : Nat → α) (i : Nat) (v : α) : upd f i v i = v := by simp [upd]
theorem upd_other {α : Type} (f : Nat → α) {i j : Nat} (v : α) (h : j ≠ i) : upd f i v j = f j := by
  have : Nat.beq i j = false := by
    cases hb : Nat.beq i j with
    | false => rfl
    | true => exact absurd (Nat.eq_of_beq_eq_true hb).symm h
  simp [upd, this]
theorem cv_rel (E : RE) (v : Value) : rel E (cv v) v := by
  cases v with
  | bool b => simp [cv, rel, VR, K.agg, RC]
  | int k n => simp [cv, rel, VR, K.agg, RC]
  | string s => simp [cv, rel, VR, K.agg, RC]
  | slice a l c =>
    cases a with
    | some a => simp [cv, rel]
    | none =>
      simp only [cv]
      split
      · rename_i h
        simp [rel, h.1, h.2]
      · simp [rel]
  | func fn x y =>
    cases fn with
    | func f =>
      simp only [cv]
      split
      · rename_i h
        obtain ⟨h1, h2⟩ := h
        rw [Array.size_eq_zero_iff] at h1 h2
        subst h1 h2
        exact ⟨#[], rfl, by simp [rels]⟩
      · simp [rel]
    | _ => simp [cv, rel]
  | _ => simp [cv, rel]
theorem Inv.ev {C : Cx} {ρ : Nat → Value} {s : St} {a : Act} {w : World} (I : Inv C ρ s a w) (x : Operand) : rel (envOf C ρ s.h w) (s.ev x) (a.eval x) := by
  cases x with
  | tmp t =>
    show rel _ (bif Nat.blt t 5000000 then s.t t else .u) _
    cases h : Nat.blt t 5000000 with
    | false => trivial
    | true =>
      have h : t < 5000000 := Nat.le_of_ble_eq_true h
      have := I.tm t
      rw [Cx.tv_lt h] at this
      exact this
  | const v => exact cv_rel _ v
  | global g => trivial
  | func f => exact ⟨#[], rfl, by simp [rels]⟩
/-- A place is filled. -/
theorem Inv.put {C : Cx} {ρ : Nat → Value} {s : St} {a : Act} {w : World} (I : Inv C ρ s a w) {dst : Option Tmp} {v : AV} {u : Value} (hd : okDst C.n dst = true) (h : rel (envOf C ρ s.h w) v u) :
    Inv C ρ ⟨putD s.t dst v, s.h⟩ (a.put dst u) w := by
  cases dst with
  | none => exact I
  | some d =>
    have hlt : d < a.tmps.size := by rw [I.sz]; exact Nat.le_of_ble_eq_true hd
    have hd5 : d < 5000000 := Nat.lt_of_lt_of_le (by rw [I.sz] at hlt; exact hlt) C.hn
    refine ⟨I.hd, by simpa [Act.put] using I.sz, I.fr, I.rows, I.inj, fun i => ?_⟩
    by_cases e : i = d
    · subst e
      show rel _ (upd s.t i v i) _
      rw [upd_same, Cx.tv_lt hd5]
      simp only [Act.put]
      rw [Array.getD_eq_getD_getElem?, Array.getElem?_setIfInBounds_self_of_lt hlt]
      exact h
    · show rel _ (upd s.t d v i) _
      rw [upd_other _ _ e]
      simp only [Act.put, Cx.tv]
      rw [Array.getD_eq_getD_getElem?, Array.getElem?_setIfInBounds_ne (fun h => e h.symm), ← Array.getD_eq_getD_getElem?]
      exact I.tm i
end Go.Proofs.Ytkgjchmfiohciaa.Den
