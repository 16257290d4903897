/- How an argument that reads as data opens as plain data of a kind. -/
import Derived.Test.YtkgjchmfiohciaaDenS25
import Derived.ChangeArms
import Derived.DataElems
import Derived.WideShapes
namespace Go.Proofs.Ytkgjchmfiohciaa.Den
open Go.RowKit
set_option linter.unusedVariables false
/-- What is known of data that was read. -/
def OkT : (k : K) → T k → Prop
  | .int k, n => k.min ≤ n ∧ n ≤ k.max | .bool, _ => True | .str, s => ByteArray.size s ≤ maxLen
  | .slice k, l => List.length l ≤ maxLen ∧ ∀ x ∈ (l : List (T k)), OkT k x
  | .pair a b, x => OkT a x.1 ∧ OkT b x.2 | .one k, x => OkT k x | .unit, _ => True
  | .arr n k, l => List.length l = n ∧ ∀ x ∈ (l : List (T k)), OkT k x
def Opens (P : Program) (t : TypeId) (k : K) : Prop :=
  ∀ (H : Type) (enc : TypeId × Value → H) (W : World) (base : Nat) (spare : Nat → Bool) (held : Bool) (fuel : Nat) (cs : List Value) (x : DataW H × List MemPlace),
    DataW.trod enc P W base spare held fuel t cs = some x → ∃ a : T k, RC W (fun b => b < W.heap.size) k a cs ∧ OkT k a
theorem opens_int {P : Program} {t : TypeId} {k : IntKind} (h : P.underlying t = some (.int k)) : Opens P t (.int k) := by
  intro H enc W base spare held fuel cs x hx
  obtain ⟨n, rfl, _, hw⟩ := DataW.trod_int h hx
  exact ⟨n, rfl, by simpa [Lit.wf, OkT] using hw⟩
theorem opens_bool {P : Program} {t : TypeId} (h : P.underlying t = some .bool) : Opens P t .bool := by
  intro H enc W base spare held fuel cs x hx
  obtain ⟨n, rfl, _⟩ := DataW.trod_bool h hx
  exact ⟨n, rfl, trivial⟩
theorem opens_str {P : Program} {t : TypeId} (h : P.underlying t = some .string) : Opens P t .str := by
  intro H enc W base spare held fuel cs x hx
  obtain ⟨n, rfl, _, hs⟩ := DataW.trod_string h hx
  exact ⟨n, rfl, hs⟩
theorem cells_get {w : World} {base : Nat} {a : Addr} {n : Nat} {cs : List Value} (h : w.cells? base a n = some cs) : cs.length = n ∧ ∀ i u, cs[i]? = some u → w.cell? (a.add i) = some u := by
  unfold World.cells? at h
  split at h
  · have hl : cs.length = n := by simpa using mapM_some_length h
    refine ⟨hl, fun i u hu => ?_⟩
    have hi : i < n := by
      have := (List.getElem?_eq_some_iff.1 hu).1
      omega
    have := mapM_some_get h i i (by simp [hi])
    rw [this, hu]
  · cases h
theorem RL_snoc {α : Type} {f : α → List Value → Prop} : ∀ {xs : List α} {l : List Value} {x : α} {c : List Value}, RL f xs l → f x c → RL f (xs ++ [x]) (l ++ c)
  | [], l, x, c, h, hx => by
    have h : l = [] := h
    subst h
    exact ⟨c, [], by simp, hx, rfl⟩
  | y :: xs, l, x, c, h, hx => by
    obtain ⟨c1, l', rfl, h1, h2⟩ := h
    exact ⟨c1, l' ++ c, by simp, h1, RL_snoc h2 hx⟩
theorem opened_row {W : World} {a : Addr} {k : K} {m : Nat} (hm : m = k.cells) : ∀ (n : Nat), (∀ i, i < n → ∃ (b : T k) (c : List Value), RC W (fun b => b < W.heap.size) k b c ∧ (∀ j u, c[j]? = some u → W.cell? (a.add (i * m + j)) = some u) ∧ OkT k b) →
    ∃ (xs : List (T k)) (vals : List Value), xs.length = n ∧ RL (RC W (fun b => b < W.heap.size) k) xs vals ∧ (∀ j u, vals[j]? = some u → W.cell? (a.add j) = some u) ∧ ∀ x ∈ xs, OkT k x
  | 0, h => ⟨[], [], rfl, rfl, fun j u hj => by simp at hj, fun x hx => by simp at hx⟩
  | n + 1, h => by
    obtain ⟨xs, vals, h1, h2, h3, h4⟩ := opened_row hm n (fun i hi => h i (by omega))
    obtain ⟨b, c, g1, g2, g3⟩ := h n (by omega)
    have hl : vals.length = n * m := by rw [RL_len (m := k.cells) (fun x c hx => RC_len hx) h2, h1, hm]
    refine ⟨xs ++ [b], vals ++ c, by simp [h1], RL_snoc h2 g1, fun j u hj => ?_, fun x hx => ?_⟩
    · rcases Nat.lt_or_ge j vals.length with hlt | hge
      · rw [List.getElem?_append_left hlt] at hj
        exact h3 j u hj
      · rw [List.getElem?_append_right hge] at hj
        have := g2 _ u hj
        rwa [hl, show n * m + (j - n * m) = j by omega] at this
    · rcases List.mem_append.1 hx with hx | hx
      · exact h4 x hx
      · simp at hx; subst hx; exact g3
theorem opens_slice {P : Program} {t e : TypeId} {k : K} (h : P.underlying t = some (.slice e)) (hc : P.cellsOf e = k.cells) (ho : Opens P e k) : Opens P t (.slice k) := by
  intro H enc W base spare held fuel cs x hx
  rcases DataW.trod_slice h hx with ⟨rfl, _⟩ | ⟨a, len, cap, elems, rest, n, rfl, rfl, hxx, hb, hl, hm, he, hf, _, _⟩
  · exact ⟨[], ⟨none, 0, [], rfl, Nat.le_refl _, rfl, fun h => absurd rfl h⟩, by simp [OkT]⟩
  · obtain ⟨xs, vals, h1, h2, h3, h4⟩ := opened_row (W := W) (a := a) (k := k) hc len (by
      intro i hi
      have h1 := hf i hi
      rw [List.getElem?_eq_getElem (show i < elems.length by omega)] at h1
      obtain ⟨c, hc1, hc2⟩ := Option.bind_eq_some_iff.1 h1
      obtain ⟨b, hb1, hb2⟩ := ho H enc W base spare held n c _ hc2
      obtain ⟨hc3, hc4⟩ := cells_get hc1
      exact ⟨b, c, hb1, fun j u hu => by
        have := hc4 j u hu
        rwa [Addr.add_add] at this, hb2⟩)
    subst h1
    refine ⟨xs, ⟨some a, cap, vals, rfl, hl, h2, fun hv => ?_⟩, by
      refine ⟨?_, h4⟩
      show xs.length ≤ maxLen
      omega⟩
    have hpos : 0 < vals.length := List.length_pos_iff.2 hv
    have h0 := h3 0 vals[0] (List.getElem?_eq_getElem hpos)
    rw [show a.add 0 = a from rfl] at h0
    unfold World.cell? at h0
    split at h0
    · rename_i c _ _ hheap
      split at h0
      · cases h0
      · rename_i hs
        obtain ⟨b, off, sp⟩ := a
        simp only [Bool.not_eq_true, Option.isSome_eq_false_iff, Option.isNone_iff_eq_none] at hs
        subst hs
        refine ⟨b, off, rfl, (Array.getElem?_eq_some_iff.1 hheap).1, fun j u hu => ?_⟩
        have := h3 j u hu
        unfold Addr.add at this
        split at this
        · rename_i hj; subst hj; exact this
        · exact this
    · cases h0
/-- Fields in line, from offset o on. -/
def OpensF (P : Program) (fs : List Field) (o : Nat) (k : K) : Prop :=
  ∀ (H : Type) (enc : TypeId × Value → H) (W : World) (base : Nat) (spare : Nat → Bool) (held : Bool) (n : Nat) (cs : List Value),
    (∀ f, f ∈ fs → ∃ y, DataW.trod enc P W base spare held n f.type ((cs.drop f.offset).take (P.cellsOf f.type)) = some y) → ∃ a : T k, RC W (fun b => b < W.heap.size) k a ((cs.drop o).take k.cells) ∧ OkT k a
theorem opensF_one {P : Program} {f : Field} {o : Nat} {k : K} (h0 : f.offset = o) (hc : P.cellsOf f.type = k.cells) (h : Opens P f.type k) : OpensF P [f] o k := by
  intro H enc W base spare held n cs hf
  obtain ⟨y, hy⟩ := hf f (by simp)
  rw [h0, hc] at hy
  exact h H enc W base spare held n _ y hy
theorem opensF_cons {P : Program} {f : Field} {fs : List Field} {o : Nat} {k k' : K} (h0 : f.offset = o) (hc : P.cellsOf f.type = k.cells) (h : Opens P f.type k) (hr : OpensF P fs (o + k.cells) k') :
    OpensF P (f :: fs) o (.pair k k') := by
  intro H enc W base spare held n cs hf
  obtain ⟨y, hy⟩ := hf f (by simp)
  rw [h0, hc] at hy
  obtain ⟨a, ha, hoa⟩ := h H enc W base spare held n _ y hy
  obtain ⟨b, hb, hob⟩ := hr H enc W base spare held n cs (fun g hg => hf g (by simp [hg]))
  refine ⟨(a, b), ⟨_, _, ?_, ha, hb⟩, hoa, hob⟩
  show (cs.drop o).take (k.cells + k'.cells) = _
  rw [List.take_add, List.drop_drop]
theorem opensF_oneK {P : Program} {fs : List Field} {o : Nat} {k : K} (h : OpensF P fs o k) : OpensF P fs o (.one k) := h
theorem opens_struct {P : Program} {t : TypeId} {fs : Array Field} {k : K} (h : P.underlying t = some (.struct fs)) (hc : P.cellsOf t = k.cells) (hf : OpensF P fs.toList 0 k) : Opens P t k := by
  intro H enc W base spare held fuel cs x hx
  obtain ⟨xs, n, rfl, _, hl, hxl, hg⟩ := DataW.trod_struct h hx
  have := hf H enc W base spare held n cs (fun f hff => by
    obtain ⟨i, hi, rfl⟩ := List.getElem_of_mem hff
    have h1 := hg i (fs.toList[i]) (by simp [Array.getElem?_eq_getElem (show i < fs.size by simpa using hi)])
    rw [h1]
    exact ⟨_, List.getElem?_eq_getElem (by simp at hi; omega)⟩)
  rw [List.drop_zero, ← hc, ← hl, List.take_length] at this
  exact this
theorem VR_agg {w : World} {rd : Nat → Prop} {k : K} {a : T k} {cs : Array Value} (hk : k.agg = true) (h : RC w rd k a (Value.agg cs).cells.toList) : VR w rd k a (.agg cs) := by
  unfold VR
  rw [if_pos hk]
  exact ⟨cs, rfl, h⟩
theorem VR_one {w : World} {rd : Nat → Prop} {k : K} {a : T k} {v : Value} (hk : k.agg = false) (hc : v.cells = #[v]) (h : RC w rd k a v.cells.toList) : VR w rd k a v := by
  unfold VR
  rw [if_neg (by simp [hk])]
  rw [hc] at h
  exact h
/-- What a law hands back. -/
theorem res_bool {w w' : World} {ok : Nat → Prop} {ios : Nat → Option Value} {b : Bool} {v : Value} (h : ResR w w' ok ios [.v .bool] [⟨.bool, b⟩] v) : v = .bool b := by
  obtain ⟨vs, bs, rfl, _, u, vs', rfl, _, hv, rfl, _⟩ := h
  unfold VR at hv
  rw [if_neg (by simp [K.agg])] at hv
  simp only [RC, List.cons.injEq, and_true] at hv
  subst hv
  rfl
def noIos : Nat → Option Value := fun _ => none
theorem noIos_no {b : Nat} : ¬ iob noIos b := fun ⟨_, _, h, _⟩ => by cases h
/-- A law's function: nothing is handed in to be written. -/
theorem SpecOK.callsPure {P : Program} {f : Nat} {sp : Spec} (h : SpecOK P f sp) (x : Leafs (IM.ks sp.ins)) (y : Leafs (RM.ks sp.outs)) (hy : sp.f x = some y) (w : World) (ok : Nat → Prop) (args : Array Value) (hok : ∀ b, ok b → b < w.heap.size) (hp : PVs w ok noIos sp.ins (unL (IM.ks sp.ins) x) args.toList) :
    Calls P f args w fun e w' => ∃ v, e = .returned v ∧ Go.RowKit.Below w.heap.size w w' ∧ ResR w w' ok noIos sp.outs (unL (RM.ks sp.outs) y) v :=
  (h.calls x y hy w ok noIos args hok (fun j v h => by cases h) (fun b h => (noIos_no h).elim) (fun i j u v b h => by cases h) hp).mono fun e w' hh => by
    obtain ⟨v, h1, h2, h3⟩ := hh
    exact ⟨v, h1, ⟨h2.os, h2.tape, h2.output, h2.size, fun k hk => h2.block k hk noIos_no⟩, h3⟩
end Go.Proofs.Ytkgjchmfiohciaa.Den
