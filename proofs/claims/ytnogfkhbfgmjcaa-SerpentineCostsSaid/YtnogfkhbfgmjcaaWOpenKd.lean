/- How an argument that reads as data opens as a plain Lean value of a printed kind (whole numbers, bools, strings, slices, structs): no condition beyond the reading itself. -/
import Derived.ChangeArms
import Derived.DataElems
import Derived.WideShapes
import Derived.Test.YtnogfkhbfgmjcaaWWords
namespace Go.Proofs.YtnogfkhbfgmjcaaW.OpenKd
open Go.Proofs.YtnogfkhbfgmjcaaW.PrintWords
set_option linter.unusedVariables false

/-- Cells that read as data of type t are those of a value of kind d, and the value meets ok. -/
def Opens (P : Program) (t : TypeId) {α : Type} (d : Kd α) (ok : α → Prop) : Prop :=
  ∀ (H : Type) (enc : TypeId × Value → H) (W : World) (base : Nat) (spare : Nat → Bool) (held : Bool) (fuel : Nat) (cs : List Value) (x : DataW H × List MemPlace),
    DataW.trod enc P W base spare held fuel t cs = some x → ∃ a : α, d.K W a cs ∧ ok a

theorem opens_int {P : Program} {t : TypeId} {k : IntKind} (h : P.underlying t = some (.int k)) : Opens P t (Kd.int k) (fun a => (Lit.int k a).wf = true) := by
  intro H enc W base spare held fuel cs x hx
  obtain ⟨n, rfl, _, hw⟩ := DataW.trod_int h hx
  exact ⟨n, rfl, hw⟩
theorem opens_bool {P : Program} {t : TypeId} (h : P.underlying t = some .bool) : Opens P t Kd.bool (fun _ => True) := by
  intro H enc W base spare held fuel cs x hx
  obtain ⟨n, rfl, _⟩ := DataW.trod_bool h hx
  exact ⟨n, rfl, trivial⟩
theorem opens_string {P : Program} {t : TypeId} (h : P.underlying t = some .string) : Opens P t Kd.string (fun s => s.size ≤ maxLen) := by
  intro H enc W base spare held fuel cs x hx
  obtain ⟨n, rfl, _, hs⟩ := DataW.trod_string h hx
  exact ⟨n, rfl, hs⟩
theorem some_list {α : Type} : ∀ (n : Nat) (f : Nat → α → Prop), (∀ i, i < n → ∃ a, f i a) → ∃ l : List α, l.length = n ∧ ∀ i a, l[i]? = some a → f i a
  | 0, f, h => ⟨[], rfl, fun i a hi => by simp at hi⟩
  | n + 1, f, h => by
    obtain ⟨l, hl, hf⟩ := some_list n f (fun i hi => h i (by omega))
    obtain ⟨a, ha⟩ := h n (by omega)
    refine ⟨l ++ [a], by simp [hl], fun i b hb => ?_⟩
    rcases Nat.lt_or_ge i n with hi | hi
    · rw [List.getElem?_append_left (by omega)] at hb
      exact hf i b hb
    · rw [List.getElem?_append_right (by omega)] at hb
      have hi' : i - l.length = 0 := by
        have := (List.getElem?_eq_some_iff.1 hb).1
        simp at this
        omega
      rw [hi'] at hb
      have : i = n := by omega
      subst this
      simp at hb
      subst hb
      exact ha
theorem cells_get {w : World} {base : Nat} {a : Addr} {n : Nat} {cs : List Value} (h : w.cells? base a n = some cs) : cs.length = n ∧ ∀ i u, cs[i]? = some u → w.cell? (a.add i) = some u := by
  unfold World.cells? at h
  split at h
  · have hl : cs.length = n := by simpa using mapM_some_length h
    refine ⟨hl, fun i u hu => ?_⟩
    have hi : i < n := by
      have := (List.getElem?_eq_some_iff.1 hu).1
      omega
    have := mapM_some_get h i i (by simp [hi])
    rw [this, hu]
  · cases h
theorem opens_slice {P : Program} {t e : TypeId} {α : Type} {d : Kd α} {ok : α → Prop} (h : P.underlying t = some (.slice e)) (hc : P.cellsOf e = d.sz) (ho : Opens P e d ok) :
    Opens P t (Kd.slice e d) (fun l => l.length ≤ maxLen ∧ ∀ (i : Nat) (a : α), l[i]? = some a → ok a) := by
  intro H enc W base spare held fuel cs x hx
  rcases DataW.trod_slice h hx with ⟨rfl, _⟩ | ⟨a, len, cap, elems, rest, n, rfl, rfl, hxx, hb, hl, hm, he, hf, _, _⟩
  · exact ⟨[], ⟨none, 0, rfl, by simp, ⟨by simp, by simp, fun h0 => by simp at h0⟩⟩, by simp, fun i a ha => by simp at ha⟩
  · obtain ⟨l, hll, hlf⟩ := some_list len (fun i (b : α) => (∃ c, c.length = d.sz ∧ d.K W b c ∧ ∀ j u, c[j]? = some u → W.cell? (a.add (i * d.sz + j)) = some u) ∧ ok b) (by
      intro i hi
      have h1 := hf i hi
      rw [List.getElem?_eq_getElem (show i < elems.length by omega)] at h1
      obtain ⟨c, hc1, hc2⟩ := Option.bind_eq_some_iff.1 h1
      obtain ⟨b, hb1, hb2⟩ := ho H enc W base spare held n c _ hc2
      obtain ⟨hc3, hc4⟩ := cells_get hc1
      refine ⟨b, ⟨c, by rw [hc3, hc], hb1, fun j u hu => ?_⟩, hb2⟩
      have := hc4 j u hu
      rwa [Addr.add_add, hc] at this)
    subst hll
    refine ⟨l, ⟨some a, cap, rfl, hl, ⟨rfl, ?_, fun h0 => ⟨a, rfl, fun j p hj => (hlf j p hj).1⟩⟩⟩, by omega, fun i b hb => (hlf i b hb).2⟩
    have : maxLen ≤ 9223372036854775807 := by decide
    omega

/-- Fields in line, from offset o on. -/
def OpensF (P : Program) (fs : List Field) (o : Nat) {α : Type} (d : Kd α) (ok : α → Prop) : Prop :=
  ∀ (H : Type) (enc : TypeId × Value → H) (W : World) (base : Nat) (spare : Nat → Bool) (held : Bool) (n : Nat) (cs : List Value),
    (∀ f, f ∈ fs → ∃ y, DataW.trod enc P W base spare held n f.type ((cs.drop f.offset).take (P.cellsOf f.type)) = some y) → ∃ a : α, d.K W a ((cs.drop o).take d.sz) ∧ ok a
theorem opensF_one {P : Program} {f : Field} {o : Nat} {α : Type} {d : Kd α} {ok : α → Prop} (h0 : f.offset = o) (hc : P.cellsOf f.type = d.sz) (h : Opens P f.type d ok) : OpensF P [f] o d ok := by
  intro H enc W base spare held n cs hf
  obtain ⟨y, hy⟩ := hf f (by simp)
  rw [h0, hc] at hy
  exact h H enc W base spare held n _ y hy
theorem opensF_cons {P : Program} {f : Field} {fs : List Field} {o : Nat} {α β : Type} {d : Kd α} {d' : Kd β} {ok : α → Prop} {ok' : β → Prop} (h0 : f.offset = o) (hc : P.cellsOf f.type = d.sz) (h : Opens P f.type d ok) (hr : OpensF P fs (o + d.sz) d' ok') :
    OpensF P (f :: fs) o (Kd.pair d d') (fun x => ok x.1 ∧ ok' x.2) := by
  intro H enc W base spare held n cs hf
  obtain ⟨y, hy⟩ := hf f (by simp)
  rw [h0, hc] at hy
  obtain ⟨a, ha, hoa⟩ := h H enc W base spare held n _ y hy
  obtain ⟨b, hb, hob⟩ := hr H enc W base spare held n cs (fun g hg => hf g (by simp [hg]))
  refine ⟨(a, b), ⟨_, _, ?_, ha, hb⟩, hoa, hob⟩
  show (cs.drop o).take (d.sz + d'.sz) = _
  rw [List.take_add, List.drop_drop]
theorem opens_struct {P : Program} {t : TypeId} {fs : Array Field} {α : Type} {d : Kd α} {ok : α → Prop} (h : P.underlying t = some (.struct fs)) (hc : P.cellsOf t = d.sz) (hf : OpensF P fs.toList 0 d ok) : Opens P t d ok := by
  intro H enc W base spare held fuel cs x hx
  obtain ⟨xs, n, rfl, _, hl, hxl, hg⟩ := DataW.trod_struct h hx
  have := hf H enc W base spare held n cs (fun f hff => by
    obtain ⟨i, hi, rfl⟩ := List.getElem_of_mem hff
    have h1 := hg i (fs.toList[i]) (by simp [Array.getElem?_eq_getElem (show i < fs.size by simpa using hi)])
    rw [h1]
    exact ⟨_, List.getElem?_eq_getElem (by simp at hi; omega)⟩)
  rw [List.drop_zero, ← hc, ← hl, List.take_length] at this
  exact this
theorem opens_iso {P : Program} {t : TypeId} {α β : Type} {d : Kd α} {ok : α → Prop} (f : β → α) (g : α → β) (hfg : ∀ a, f (g a) = a) (h : Opens P t d ok) : Opens P t (Kd.iso d f) (fun b => ok (f b)) := by
  intro H enc W base spare held fuel cs x hx
  obtain ⟨a, ha, hoa⟩ := h H enc W base spare held fuel cs x hx
  refine ⟨g a, ?_, ?_⟩
  · show d.K W (f (g a)) cs
    rw [hfg]; exact ha
  · show ok (f (g a))
    rw [hfg]; exact hoa
theorem Opens.imp {P : Program} {t : TypeId} {α : Type} {d : Kd α} {ok ok' : α → Prop} (h : Opens P t d ok) (hi : ∀ a, ok a → ok' a) : Opens P t d ok' := fun H enc W base spare held fuel cs x hx => by
  obtain ⟨a, ha, hoa⟩ := h H enc W base spare held fuel cs x hx
  exact ⟨a, ha, hi a hoa⟩
/-- What is known of an argument's parts. -/
def OkInt (k : IntKind) (a : Int) : Prop := k.min ≤ a ∧ a ≤ k.max
def OkBool (_ : Bool) : Prop := True
def OkStr (s : ByteArray) : Prop := s.size ≤ maxLen
def OkList {α : Type} (ok : α → Prop) (l : List α) : Prop := l.length ≤ maxLen ∧ ∀ (i : Nat) (a : α), l[i]? = some a → ok a
theorem OkInt.i64 {a : Int} (h : OkInt .i64 a) : -9223372036854775808 ≤ a ∧ a ≤ 9223372036854775807 := h
theorem OkInt.u64 {a : Int} (h : OkInt .u64 a) : 0 ≤ a ∧ a ≤ 18446744073709551615 := h
theorem OkInt.u8 {a : Int} (h : OkInt .u8 a) : 0 ≤ a ∧ a ≤ 255 := h
theorem OkList.mem {α : Type} {ok : α → Prop} {l : List α} (h : OkList ok l) {a : α} (ha : a ∈ l) : ok a := by
  obtain ⟨i, hi, rfl⟩ := List.getElem_of_mem ha
  exact h.2 i _ (List.getElem?_eq_getElem hi)
theorem OkList.len {α : Type} {ok : α → Prop} {l : List α} (h : OkList ok l) : l.length ≤ 9223372036854775807 := h.1
theorem opens_int' {P : Program} {t : TypeId} {k : IntKind} (h : P.underlying t = some (.int k)) : Opens P t (Kd.int k) (OkInt k) :=
  (opens_int h).imp fun a h => by simpa [Lit.wf, OkInt] using h
end Go.Proofs.YtnogfkhbfgmjcaaW.OpenKd
