/- Part 4 of what the proof of FnLasts needs: contracts of functions, as plain functions over numbers and lists, and laws of these. -/
import Derived.WalkKit
import Derived.Handy
import Derived.Deep.QuietTactic
import Derived.BigQuiet
import Derived.Deep.Draws
import Derived.Deep.AppendLies
import Derived.Deep.LoopGhost
import Derived.Laws.OwnMore
import Derived.OwnWalk
import Derived.Lib.Hide
import Derived.Deep.RegionHeld3
import Derived.Deep.DeepCutAuto
import Derived.Test.YtjnmhpldabbeiaaChecked
import Derived.ProofKit
import Derived.OpenShut
import Derived.Deep.Slices
import Derived.WideKeyArgs
import Derived.Test.YtjnmhpldabbeiaaCFnLasts0
import Derived.Test.YtjnmhpldabbeiaaCFnLasts1
import Derived.Test.YtjnmhpldabbeiaaProg
import Derived.Laws.BitsLemmas
import Derived.Laws.Bits64
import Derived.Laws.BytesArg
set_option linter.unusedVariables false
set_option linter.unusedSimpArgs false
section
namespace Go.Proofs.Ytjnmhpldabbeiaa.M
open Go.RowKit

/-! ### ends: contracts are said with an open post R -/
/-- The post behind a name: the walk does not look into it. -/
def Fin (R : Ending → World → Prop) (e : Ending) (w : World) : Prop := R e w
theorem retI {R : Ending → World → Prop} {w : World} {a b : Int} (h : R (.returned (.int .i64 a)) w) (e : b = a) : Fin R (.returned (.int .i64 b)) w := by rw [e]; exact h
theorem retB {R : Ending → World → Prop} {w : World} {a b : Bool} (h : R (.returned (.bool a)) w) (e : b = a) : Fin R (.returned (.bool b)) w := by rw [e]; exact h
theorem retV {R : Ending → World → Prop} {w : World} {a b : Value} (h : R (.returned a) w) (e : b = a) : Fin R (.returned b) w := by rw [e]; exact h

/-! ### cells in line -/
/-- The values vs lie from p on. -/
def At (w : World) (p : Addr) (vs : List Value) : Prop := (∀ v, vs[0]? = some v → w.cell? p = some v) ∧ ∀ j v, vs[j + 1]? = some v → w.cell? ⟨p.block, p.off + (j + 1), none⟩ = some v
theorem cell_below {w w' : World} {p : Addr} {v : Value} (hb : Below w.heap.size w w') (h : w.cell? p = some v) : w'.cell? p = some v := (hb.cell (World.block_lt_of_cell? w _ h)).trans h
theorem At.below {w w' : World} {p : Addr} {vs : List Value} (h : At w p vs) (hb : Below w.heap.size w w') : At w' p vs :=
  ⟨fun v hv => cell_below hb (h.1 v hv), fun j v hv => cell_below hb (h.2 j v hv)⟩
section
variable {w : World} {p : Addr} {a b c d e f g h : Value}
theorem At.one (x : At w p [a]) : w.cell? p = some a := x.1 _ rfl
theorem At.two (x : At w p [a, b]) : w.cell? p = some a ∧ w.cell? ⟨p.block, p.off + 1, none⟩ = some b := ⟨x.1 _ rfl, x.2 0 _ rfl⟩
theorem At.three (x : At w p [a, b, c]) : w.cell? p = some a ∧ w.cell? ⟨p.block, p.off + 1, none⟩ = some b ∧ w.cell? ⟨p.block, p.off + 2, none⟩ = some c := ⟨x.1 _ rfl, x.2 0 _ rfl, x.2 1 _ rfl⟩
theorem At.five (x : At w p [a, b, c, d, e]) : w.cell? p = some a ∧ w.cell? ⟨p.block, p.off + 1, none⟩ = some b ∧ w.cell? ⟨p.block, p.off + 2, none⟩ = some c ∧ w.cell? ⟨p.block, p.off + 3, none⟩ = some d ∧ w.cell? ⟨p.block, p.off + 4, none⟩ = some e :=
  ⟨x.1 _ rfl, x.2 0 _ rfl, x.2 1 _ rfl, x.2 2 _ rfl, x.2 3 _ rfl⟩
theorem At.eight (x : At w p [a, b, c, d, e, f, g, h]) : w.cell? p = some a ∧ w.cell? ⟨p.block, p.off + 1, none⟩ = some b ∧ w.cell? ⟨p.block, p.off + 2, none⟩ = some c ∧ w.cell? ⟨p.block, p.off + 3, none⟩ = some d ∧ w.cell? ⟨p.block, p.off + 4, none⟩ = some e ∧
    w.cell? ⟨p.block, p.off + 5, none⟩ = some f ∧ w.cell? ⟨p.block, p.off + 6, none⟩ = some g ∧ w.cell? ⟨p.block, p.off + 7, none⟩ = some h :=
  ⟨x.1 _ rfl, x.2 0 _ rfl, x.2 1 _ rfl, x.2 2 _ rfl, x.2 3 _ rfl, x.2 4 _ rfl, x.2 5 _ rfl, x.2 6 _ rfl⟩
end
theorem keeps_refl (w : World) : ∀ p, (w.cell? p).isSome = true → w.drew.cell? p = w.cell? p := fun _ _ => rfl
theorem keeps_below {w w' : World} (hb : Below w.heap.size w w') : ∀ p, (w.cell? p).isSome = true → w'.cell? p = w.cell? p := fun p hp => by
  cases hc : w.cell? p with
  | none => rw [hc] at hp; cases hp
  | some v => exact cell_below hb hc
theorem keeps_trans {w w1 w2 : World} (hk : ∀ p, (w.cell? p).isSome = true → w1.cell? p = w.cell? p) (hb : Below w1.heap.size w1 w2) : ∀ p, (w.cell? p).isSome = true → w2.cell? p = w.cell? p := fun p hp => by
  have h1 := hk p hp
  exact (keeps_below hb p (by rw [h1]; exact hp)).trans h1
theorem below_drew {w w' : World} (hb : Below w.drew.heap.size w.drew w') : Below w.heap.size w w' := ⟨hb.os, hb.tape, hb.output, hb.size, hb.block⟩
theorem bdN {B : Nat} {a w : World} (h : Below B a w) (n : Nat) : Below B a (w.drewN n) := ⟨h.os, h.tape, h.output, h.size, h.block⟩
/-- All cells of a block, as a rule for the walk. -/
theorem blk_new (w : World) (cs : Array Value) (t : TypeId) : ∀ i, (w.alloc (.cells cs t)).cell? ⟨w.heap.size, i, none⟩ = cs[i]? := fun i => World.cell?_alloc_new w cs t i
theorem blk_keep {w w' : World} {g : Nat} {cs : Array Value} (h : ∀ i, w.cell? ⟨g, i, none⟩ = cs[i]?) (hg : g < w.heap.size) (hb : Below w.heap.size w w') : ∀ i, w'.cell? ⟨g, i, none⟩ = cs[i]? := fun i => (hb.cell (p := ⟨g, i, none⟩) hg).trans (h i)
theorem blk_alloc {w : World} {g : Nat} {cs : Array Value} (h : ∀ i, w.cell? ⟨g, i, none⟩ = cs[i]?) (hg : g < w.heap.size) (o : Obj) : ∀ i, (w.alloc o).cell? ⟨g, i, none⟩ = cs[i]? := blk_keep h hg ((Below.refl _ _).alloc (Nat.le_refl _) o)
theorem frz_new (w : World) (cs : Array Value) (t : TypeId) : ∀ i, (w.alloc (.cells cs t)).frozen? ⟨w.heap.size, i, none⟩ = false := fun i => World.frozen?_alloc_new w cs t i
theorem frz_keep {w w' : World} {g : Nat} (h : ∀ i, w.frozen? ⟨g, i, none⟩ = false) (hg : g < w.heap.size) (hb : Below w.heap.size w w') : ∀ i, w'.frozen? ⟨g, i, none⟩ = false := fun i => (hb.frozen (p := ⟨g, i, none⟩) hg).trans (h i)
/-- The box laid first, behind something that leaves old memory alone. -/
theorem box_new {w w1 : World} (cs : Array Value) (t : TypeId) (hb : Below (w.alloc (.cells cs t)).heap.size (w.alloc (.cells cs t)) w1) :
    (∀ i, w1.cell? ⟨w.heap.size, i, none⟩ = cs[i]?) ∧ (∀ i, w1.frozen? ⟨w.heap.size, i, none⟩ = false) ∧ w.heap.size < w1.heap.size ∧ Below w.heap.size w w1 :=
  ⟨blk_keep (blk_new w cs t) (by simp) hb, frz_keep (frz_new w cs t) (by simp) hb, Nat.lt_of_lt_of_le (by simp) hb.size, Below.trans ((Below.refl _ _).alloc (Nat.le_refl _) _) (hb.mono (by simp))⟩
theorem blk_grown {w w' : World} {g : Nat} {cs : Array Value} {row : Option Nat} (h : ∀ i, w.cell? ⟨g, i, none⟩ = cs[i]?) (hg : g < w.heap.size) (hb : w.grownBy w' row) (hne : row ≠ some g) : ∀ i, w'.cell? ⟨g, i, none⟩ = cs[i]? :=
  fun i => (World.cell?_of_block (hb.block _ hg (fun e => hne e.symm))).trans (h i)
theorem frz_alloc {w : World} {g : Nat} (h : ∀ i, w.frozen? ⟨g, i, none⟩ = false) (hg : g < w.heap.size) (o : Obj) : ∀ i, (w.alloc o).frozen? ⟨g, i, none⟩ = false := frz_keep h hg ((Below.refl _ _).alloc (Nat.le_refl _) o)
theorem blk_set {w : World} {g : Nat} {cs : Array Value} (h : ∀ i, w.cell? ⟨g, i, none⟩ = cs[i]?) (j : Nat) (v : Value) (hj : j < cs.size) : ∀ i, (w.setCell ⟨g, j, none⟩ v).cell? ⟨g, i, none⟩ = (cs.setIfInBounds j v)[i]? := fun i => by
  by_cases e : j = i
  · subst e
    rw [World.cell?_setCell_same _ _ _ ((h j).trans (Array.getElem?_eq_getElem hj))]
    simp [hj]
  · rw [World.cell?_setCell_other _ _ _ _ (fun q => e (by injection q)), h i]
    simp [e]
theorem blk_else {w : World} {g g' : Nat} {cs : Array Value} (h : ∀ i, w.cell? ⟨g, i, none⟩ = cs[i]?) (hg : g' ≠ g) (j : Nat) (v : Value) : ∀ i, (w.setCell ⟨g', j, none⟩ v).cell? ⟨g, i, none⟩ = cs[i]? := fun i => by
  rw [World.cell?_setCell_other _ _ _ _ (fun q => hg (by injection q)), h i]
theorem frz_set {w : World} {g : Nat} (h : ∀ i, w.frozen? ⟨g, i, none⟩ = false) (a : Addr) (v : Value) : ∀ i, (w.setCell a v).frozen? ⟨g, i, none⟩ = false := fun i => by rw [World.frozen?_setCell]; exact h i
/-- Three boxes laid one behind another. -/
theorem box3 (w : World) (a b c : Array Value) (s t u : TypeId) (W : World) (hW : W = ((w.alloc (.cells a s)).alloc (.cells b t)).alloc (.cells c u)) :
    (∀ i, W.cell? ⟨w.heap.size, i, none⟩ = a[i]?) ∧ (∀ i, W.cell? ⟨w.heap.size + 1, i, none⟩ = b[i]?) ∧ (∀ i, W.cell? ⟨w.heap.size + 2, i, none⟩ = c[i]?) ∧
    (∀ i, W.frozen? ⟨w.heap.size, i, none⟩ = false) ∧ (∀ i, W.frozen? ⟨w.heap.size + 1, i, none⟩ = false) ∧ (∀ i, W.frozen? ⟨w.heap.size + 2, i, none⟩ = false) ∧ W.heap.size = w.heap.size + 3 ∧ Below w.heap.size w W := by
  have e1 : (w.alloc (.cells a s)).heap.size = w.heap.size + 1 := by simp
  have e2 : ((w.alloc (.cells a s)).alloc (.cells b t)).heap.size = w.heap.size + 2 := by simp
  have b1 := blk_new (w.alloc (.cells a s)) b t
  have f1 := frz_new (w.alloc (.cells a s)) b t
  have b2 := blk_new ((w.alloc (.cells a s)).alloc (.cells b t)) c u
  have f2 := frz_new ((w.alloc (.cells a s)).alloc (.cells b t)) c u
  rw [e1] at b1 f1
  rw [e2] at b2 f2
  subst hW
  exact ⟨blk_alloc (blk_alloc (blk_new w a s) (by omega) _) (by omega) _, blk_alloc b1 (by omega) _, b2, frz_alloc (frz_alloc (frz_new w a s) (by omega) _) (by omega) _, frz_alloc f1 (by omega) _, f2, by simp, (((Below.refl _ _).alloc (Nat.le_refl _) _).alloc (by omega) _).alloc (by omega) _⟩
/-- Two boxes. -/
theorem box2 (w : World) (a b : Array Value) (s t : TypeId) (W : World) (hW : W = (w.alloc (.cells a s)).alloc (.cells b t)) :
    (∀ i, W.cell? ⟨w.heap.size, i, none⟩ = a[i]?) ∧ (∀ i, W.cell? ⟨w.heap.size + 1, i, none⟩ = b[i]?) ∧
    (∀ i, W.frozen? ⟨w.heap.size, i, none⟩ = false) ∧ (∀ i, W.frozen? ⟨w.heap.size + 1, i, none⟩ = false) ∧ W.heap.size = w.heap.size + 2 ∧ Below w.heap.size w W := by
  have e1 : (w.alloc (.cells a s)).heap.size = w.heap.size + 1 := by simp
  have b1 := blk_new (w.alloc (.cells a s)) b t
  have f1 := frz_new (w.alloc (.cells a s)) b t
  rw [e1] at b1 f1
  subst hW
  exact ⟨blk_alloc (blk_new w a s) (by omega) _, b1, frz_alloc (frz_new w a s) (by omega) _, f1, by simp, ((Below.refl _ _).alloc (Nat.le_refl _) _).alloc (by omega) _⟩
/-- One box. -/
theorem box1 (w : World) (a : Array Value) (s : TypeId) (W : World) (hW : W = w.alloc (.cells a s)) :
    (∀ i, W.cell? ⟨w.heap.size, i, none⟩ = a[i]?) ∧ (∀ i, W.frozen? ⟨w.heap.size, i, none⟩ = false) ∧ W.heap.size = w.heap.size + 1 ∧ Below w.heap.size w W := by
  subst hW
  exact ⟨blk_new w a s, frz_new w a s, by simp, (Below.refl _ _).alloc (Nat.le_refl _) _⟩
theorem size_alloc (w : World) (o : Obj) : (w.alloc o).heap.size = w.heap.size + 1 := by simp
theorem add_add (a : Addr) (i j : Nat) : (a.add i).add j = a.add (i + j) := by
  unfold Addr.add
  by_cases hi : i = 0 <;> by_cases hj : j = 0 <;> simp [hi, hj, Nat.add_assoc]
theorem add_block (a : Addr) (n : Nat) : (a.add n).block = a.block := by unfold Addr.add; split <;> rfl
theorem add_succ (p : Addr) (j : Nat) : p.add (j + 1) = ⟨p.block, p.off + (j + 1), none⟩ := by simp [Addr.add]
/-- The same by 'add'. -/
theorem At.of_add {w : World} {p : Addr} {vs : List Value} (h : ∀ j v, vs[j]? = some v → w.cell? (p.add j) = some v) : At w p vs :=
  ⟨fun v hv => h 0 v hv, fun j v hv => by rw [← add_succ]; exact h _ v hv⟩
theorem At.add {w : World} {p : Addr} {vs : List Value} (h : At w p vs) (j : Nat) (v : Value) (hv : vs[j]? = some v) : w.cell? (p.add j) = some v := by
  cases j with
  | zero => exact h.1 v hv
  | succ j => rw [add_succ]; exact h.2 j v hv

/-! ### rows that are read -/
/-- At A lie the elements xs, each k cells by enc. -/
def Row {α : Type} (enc : α → List Value) (k : Nat) (w : World) (A : Option Addr) (xs : List α) : Prop :=
  ∀ i x, xs[i]? = some x → ∃ ad, A = some ad ∧ At w (ad.add (i * k)) (enc x)
theorem drop_cons {α : Type} {xs : List α} {i : Nat} {x : α} (h : xs[i]? = some x) : xs.drop i = x :: xs.drop (i + 1) := by
  obtain ⟨hi, e⟩ := List.getElem?_eq_some_iff.1 h
  rw [List.drop_eq_getElem_cons hi, e]
theorem get_lt {α : Type} {xs : List α} {i : Nat} (h : i < xs.length) : ∃ x, xs[i]? = some x := ⟨_, List.getElem?_eq_getElem h⟩
section
variable {α : Type} {enc : α → List Value} {k : Nat} {w w' : World} {A : Option Addr} {xs : List α}
theorem Row.below (h : Row enc k w A xs) (hb : Below w.heap.size w w') : Row enc k w' A xs := fun i x hx => by
  obtain ⟨ad, e, ha⟩ := h i x hx
  exact ⟨ad, e, ha.below hb⟩
theorem Row.keeps (h : Row enc k w A xs) (hk : ∀ p, (w.cell? p).isSome = true → w'.cell? p = w.cell? p) : Row enc k w' A xs := fun i x hx => by
  obtain ⟨ad, e, h1, h2⟩ := h i x hx
  exact ⟨ad, e, fun v hv => (hk _ (by rw [h1 v hv]; rfl)).trans (h1 v hv), fun j v hv => (hk _ (by rw [h2 j v hv]; rfl)).trans (h2 j v hv)⟩
theorem Row.sub {ad : Addr} (h : Row enc k w (some ad) xs) (i m : Nat) : Row enc k w (some (ad.add (i * k))) ((xs.drop i).take m) := fun j x hx => by
  have hj : (xs.drop i)[j]? = some x := by
    rw [List.getElem?_take] at hx
    split at hx
    · exact hx
    · cases hx
  rw [List.getElem?_drop] at hj
  obtain ⟨ad', e, hA⟩ := h (i + j) x hj
  cases e
  refine ⟨_, rfl, ?_⟩
  rw [add_add, ← Nat.add_mul]
  exact hA
theorem Row.nil (enc : α → List Value) (k : Nat) (w : World) (A : Option Addr) : Row enc k w A [] := fun i x hx => by simp at hx
theorem Row.one {f : α → Value} (h : Row (fun x => [f x]) 1 w A xs) {i : Nat} {x : α} (hx : xs[i]? = some x) : ∃ ad, A = some ad ∧ w.cell? (ad.add i) = some (f x) := by
  obtain ⟨ad, e, ha⟩ := h i x hx
  exact ⟨ad, e, by have := ha.one; rwa [Nat.mul_one] at this⟩
end

/-! ### rows of the call's own -/
/-- The cells hold the elements xs, k cells each. -/
def Enc {α : Type} (enc : α → List Value) (k : Nat) (xs : List α) (cells : List Value) : Prop :=
  cells.length = xs.length * k ∧ ∀ i x, xs[i]? = some x → ∀ j u, (enc x)[j]? = some u → cells[i * k + j]? = some u
theorem mul_lt {i i' j k r : Nat} (h : i < i') (hj : j < k) : i * k + j < i' * k + r := by
  have : (i + 1) * k ≤ i' * k := Nat.mul_le_mul_right _ h
  rw [Nat.add_mul] at this
  omega
def setAll (c : List Value) (p : Nat) : List Value → List Value
  | [] => c
  | v :: vs => setAll (c.set p v) (p + 1) vs
theorem setAll_len : ∀ (vs : List Value) (c : List Value) (p : Nat), (setAll c p vs).length = c.length
  | [], _, _ => rfl
  | v :: vs, c, p => by rw [setAll, setAll_len vs]; simp
theorem setAll_out : ∀ (vs : List Value) (c : List Value) (p q : Nat), (q < p ∨ p + vs.length ≤ q) → (setAll c p vs)[q]? = c[q]?
  | [], _, _, _, _ => rfl
  | v :: vs, c, p, q, h => by
    rw [setAll, setAll_out vs _ _ _ (by simp only [List.length_cons] at h; omega), List.getElem?_set_ne (by simp only [List.length_cons] at h; omega)]
theorem setAll_in : ∀ (vs : List Value) (c : List Value) (p j : Nat) (u : Value), p + vs.length ≤ c.length → vs[j]? = some u → (setAll c p vs)[p + j]? = some u
  | [], _, _, _, _, _, h => by simp at h
  | v :: vs, c, p, 0, u, hl, h => by
    obtain rfl : v = u := by simpa using h
    rw [setAll, setAll_out vs _ _ _ (by omega), Nat.add_zero, List.getElem?_set_self (by simp only [List.length_cons] at hl; omega)]
  | v :: vs, c, p, j + 1, u, hl, h => by
    rw [setAll, show p + (j + 1) = p + 1 + j by omega]
    exact setAll_in vs _ _ _ _ (by simp only [List.length_cons, List.length_set] at hl ⊢; omega) (by simpa using h)
section
variable {α : Type} {enc : α → List Value} {k : Nat} {xs : List α} {c : List Value}
theorem Enc.nil : Enc enc k [] [] := ⟨by simp, fun i x h => by simp at h⟩
theorem Enc.snoc (h : Enc enc k xs c) (x : α) (hx : (enc x).length = k) : Enc enc k (xs ++ [x]) (c ++ enc x) := by
  refine ⟨by rw [List.length_append, h.1, hx, List.length_append, List.length_singleton, Nat.add_mul, Nat.one_mul], fun i y hy j u hu => ?_⟩
  by_cases hi : i < xs.length
  · rw [List.getElem?_append_left hi] at hy
    have := h.2 i y hy j u hu
    rw [List.getElem?_append_left (List.getElem?_eq_some_iff.1 this).1, this]
  · have hl : i < (xs ++ [x]).length := (List.getElem?_eq_some_iff.1 hy).1
    rw [List.length_append, List.length_singleton] at hl
    obtain rfl : i = xs.length := by omega
    rw [List.getElem?_append_right (Nat.le_refl _), Nat.sub_self] at hy
    obtain rfl : x = y := by simpa using hy
    rw [List.getElem?_append_right (by rw [h.1]; omega), h.1, Nat.add_sub_cancel_left, hu]
theorem Enc.append {ys : List α} {d : List Value} (h : Enc enc k xs c) (hd : Enc enc k ys d) : Enc enc k (xs ++ ys) (c ++ d) := by
  refine ⟨by rw [List.length_append, h.1, hd.1, List.length_append, Nat.add_mul], fun i y hy j u hu => ?_⟩
  by_cases hi : i < xs.length
  · rw [List.getElem?_append_left hi] at hy
    have := h.2 i y hy j u hu
    rw [List.getElem?_append_left (List.getElem?_eq_some_iff.1 this).1, this]
  · rw [List.getElem?_append_right (by omega)] at hy
    have hm : xs.length * k ≤ i * k := Nat.mul_le_mul_right _ (by omega)
    rw [List.getElem?_append_right (by rw [h.1]; omega), h.1, show i * k + j - xs.length * k = (i - xs.length) * k + j by rw [Nat.sub_mul]; omega]
    exact hd.2 _ y hy j u hu
theorem Enc.set (hk : ∀ x, (enc x).length = k) (h : Enc enc k xs c) {i : Nat} (hi : i < xs.length) (x : α) : Enc enc k (xs.set i x) (setAll c (i * k) (enc x)) := by
  refine ⟨by rw [setAll_len, h.1, List.length_set], fun i' y hy j u hu => ?_⟩
  have hj : j < k := by rw [← hk y]; exact (List.getElem?_eq_some_iff.1 hu).1
  by_cases e : i' = i
  · subst e
    rw [List.getElem?_set_self hi] at hy
    obtain rfl := Option.some.inj hy
    refine setAll_in _ _ _ _ _ ?_ hu
    rw [hk, h.1]
    have : (i' + 1) * k ≤ xs.length * k := Nat.mul_le_mul_right _ hi
    rw [Nat.add_mul] at this
    omega
  · rw [List.getElem?_set_ne (Ne.symm e)] at hy
    rw [setAll_out _ _ _ _ ?_]
    · exact h.2 i' y hy j u hu
    · rw [hk]
      rcases Nat.lt_or_gt_of_ne e with h' | h'
      · have := mul_lt (r := 0) h' hj; omega
      · have : (i + 1) * k ≤ i' * k := Nat.mul_le_mul_right _ h'
        rw [Nat.add_mul] at this
        omega
theorem Enc.take (hk : ∀ x, (enc x).length = k) (h : Enc enc k xs c) (n : Nat) (hn : n ≤ xs.length) : Enc enc k (xs.take n) (c.take (n * k)) := by
  have hm : n * k ≤ xs.length * k := Nat.mul_le_mul_right _ hn
  refine ⟨by rw [List.length_take, h.1, List.length_take]; rw [Nat.min_eq_left hm, Nat.min_eq_left hn], fun i x hx j u hu => ?_⟩
  have hi : i < n := by have := (List.getElem?_eq_some_iff.1 hx).1; rw [List.length_take] at this; omega
  rw [List.getElem?_take_of_lt hi] at hx
  have hj : j < k := by rw [← hk x]; exact (List.getElem?_eq_some_iff.1 hu).1
  rw [List.getElem?_take_of_lt (by have := mul_lt (r := 0) hi hj; omega)]
  exact h.2 i x hx j u hu
end
/-- v owns a row of elements xs (type e), in a block from base on. -/
def Own {α : Type} (enc : α → List Value) (k : Nat) (e : TypeId) (w : World) (base : Nat) (v : Value) (xs : List α) : Prop := ∃ cells, Enc enc k xs cells ∧ w.ownsRow base e k v xs.length cells
section
variable {α : Type} {enc : α → List Value} {k : Nat} {e : TypeId} {w w' : World} {base base' : Nat} {v : Value} {xs : List α}
theorem Own.lower (h : Own enc k e w base v xs) (hb : base' ≤ base) : Own enc k e w base' v xs := by
  obtain ⟨cells, hE, h⟩ := h
  refine ⟨cells, hE, h.1, ?_⟩
  rcases h.2 with h2 | ⟨g, cap, cur, h3, h4, r⟩
  · exact .inl h2
  · exact .inr ⟨g, cap, cur, h3, by omega, r⟩
theorem grown_of_below (hb : Below w.heap.size w w') : w.grownBy w' none := ⟨hb.os, hb.tape, hb.output, hb.size, fun k hk _ => hb.block k hk⟩
theorem Own.grown (h : Own enc k e w base v xs) {row : Option Nat} (hg : w.grownBy w' row) (hne : v.ownBlock = none ∨ v.ownBlock ≠ row) : Own enc k e w' base v xs := by
  obtain ⟨cells, hE, h⟩ := h
  exact ⟨cells, hE, World.ownsRow.kept h hg hne⟩
theorem Own.below (h : Own enc k e w base v xs) (hb : Below w.heap.size w w') : Own enc k e w' base v xs := h.grown (grown_of_below hb) (by cases v.ownBlock <;> simp)
theorem Own.alloc (h : Own enc k e w base v xs) (o : Obj) : Own enc k e (w.alloc o) base v xs := h.grown (World.grownBy_alloc w o none) (by cases v.ownBlock <;> simp)
theorem Own.drew (h : Own enc k e w base v xs) : Own enc k e w.drew base v xs := h
theorem Own.drewN (h : Own enc k e w base v xs) (n : Nat) : Own enc k e (w.drewN n) base v xs := h
theorem Own.nil (w : World) (base : Nat) : Own enc k e w base (.slice none 0 0) [] := ⟨[], Enc.nil, World.ownsRow_nil w base e k⟩
theorem Own.lt (h : Own enc k e w base v xs) {g : Nat} (hg : v.ownBlock = some g) : base ≤ g ∧ g < w.heap.size := by
  obtain ⟨cells, hE, h⟩ := h
  exact World.ownsRow.lt h g hg
/-- What is owned reads so. -/
theorem Own.row (h : Own enc k e w base v xs) : ∃ A c, v = .slice A xs.length c ∧ xs.length ≤ c ∧ c ≤ maxLen ∧ Row enc k w A xs := by
  obtain ⟨cells, hE, h⟩ := h
  have h0 := h
  rcases h.2 with ⟨rfl, hn⟩ | ⟨g, cap, cur, rfl, hb, hg, hnc, hcm, hcs, ht⟩
  · refine ⟨none, 0, by rw [hn], by omega, by unfold maxLen; omega, ?_⟩
    have : xs = [] := List.eq_nil_of_length_eq_zero hn
    subst this
    exact Row.nil _ _ _ _
  · refine ⟨some ⟨g, 0, none⟩, cap, rfl, hnc, hcm, fun i x hx => ⟨_, rfl, At.of_add fun j u hu => ?_⟩⟩
    rw [add_add]
    exact World.ownsRow.cells h0 (g := g) rfl _ _ (hE.2 i x hx j u hu)
/-- The shape, where there is an element. -/
theorem Own.rowOf {A : Option Addr} {n c : Nat} (h : Own enc k e w base (.slice A n c) xs) : Row enc k w A xs := by
  obtain ⟨A', c', e, _, _, r⟩ := h.row
  injection e with e1
  subst e1
  exact r
theorem Own.shape (h : Own enc k e w base v xs) (hn : 0 < xs.length) : ∃ g c, v = .slice (some ⟨g, 0, none⟩) xs.length c ∧ base ≤ g ∧ g < w.heap.size ∧ xs.length ≤ c ∧ c ≤ maxLen := by
  obtain ⟨cells, hE, h⟩ := h
  rcases h.2 with ⟨rfl, hn'⟩ | ⟨g, cap, cur, rfl, hb, hg, hnc, hcm, hcs, ht⟩
  · omega
  · exact ⟨g, cap, rfl, hb, (Array.getElem?_eq_some_iff.1 hg).1, hnc, hcm⟩
end
/-! ### an owned row whose block is known: read, write -/
section
variable {α : Type} {enc : α → List Value} {k : Nat} {e : TypeId} {w : World} {base : Nat} {g n c : Nat} {xs : List α}
theorem Own.len (h : Own enc k e w base (.slice (some ⟨g, 0, none⟩) n c) xs) : xs.length = n := by
  obtain ⟨cells, hE, h⟩ := h
  rcases h.2 with ⟨h', _⟩ | ⟨g', cap, cur, h', _⟩
  · cases h'
  · injection h' with _ h2 _
    exact h2.symm
theorem Own.at_ (h : Own enc k e w base (.slice (some ⟨g, 0, none⟩) n c) xs) {i : Nat} {x : α} (hx : xs[i]? = some x) : At w ⟨g, i * k, none⟩ (enc x) := by
  have hl := h.len
  subst hl
  obtain ⟨cells, hE, h⟩ := h
  refine At.of_add fun j u hu => ?_
  have := World.ownsRow.cells h (g := g) rfl _ _ (hE.2 i x hx j u hu)
  have e : ((⟨g, i * k, none⟩ : Addr).add j) = (⟨g, 0, none⟩ : Addr).add (i * k + j) := by
    unfold Addr.add
    by_cases h1 : j = 0
    · subst h1
      by_cases h2 : i * k = 0
      · simp [h2]
      · simp [h2]
    · by_cases h2 : i * k = 0
      · simp [h1, h2]
      · rw [if_neg h1, if_neg (by omega)]
        simp
  rw [e]
  exact this
/-- A store elsewhere. -/
theorem Own.other (h : Own enc k e w base (.slice (some ⟨g, 0, none⟩) n c) xs) {b : Nat} (hb : b ≠ g) (i : Nat) (x : Value) : Own enc k e (w.setCell ⟨b, i, none⟩ x) base (.slice (some ⟨g, 0, none⟩) n c) xs :=
  h.grown (row := some b) ⟨rfl, rfl, rfl, by simp [World.setCell], fun j _ hne => Below.heap_setCell _ _ _ _ (fun e => hne (by rw [e]))⟩ (.inr (fun e => hb (Option.some.inj e).symm))
theorem Own.free (h : Own enc k e w base (.slice (some ⟨g, 0, none⟩) n c) xs) (j : Nat) : w.frozen? ⟨g, j, none⟩ = false := by
  have hl := h.len
  subst hl
  obtain ⟨cells, hE, h⟩ := h
  exact World.ownsRow.frozenAt h j
theorem Own.lt' (h : Own enc k e w base (.slice (some ⟨g, 0, none⟩) n c) xs) : base ≤ g ∧ g < w.heap.size := h.lt rfl
/-- What vs written from p on leaves. -/
def putAll (w : World) (g p : Nat) : List Value → World
  | [] => w
  | v :: vs => putAll (w.setCell ⟨g, p, none⟩ v) g (p + 1) vs
theorem putAll_row : ∀ (vs : List Value) (w : World) (p : Nat) (cells : List Value), w.ownsRow base e k (.slice (some ⟨g, 0, none⟩) n c) n cells →
    (putAll w g p vs).ownsRow base e k (.slice (some ⟨g, 0, none⟩) n c) n (setAll cells p vs) ∧ w.grownBy (putAll w g p vs) (some g)
  | [], w, p, cells, h => ⟨h, World.grownBy.refl w _⟩
  | v :: vs, w, p, cells, h => by
    obtain ⟨h1, h2⟩ := World.ownsRow.stored h p v
    obtain ⟨h3, h4⟩ := putAll_row vs _ (p + 1) _ h1
    exact ⟨h3, ⟨h4.os.trans h2.os, h4.tape.trans h2.tape, h4.output.trans h2.output, Nat.le_trans h2.size h4.size, fun i hi hne => (h4.block i (Nat.lt_of_lt_of_le hi h2.size) hne).trans (h2.block i hi hne)⟩⟩
theorem Own.put (hk : ∀ x, (enc x).length = k) (h : Own enc k e w base (.slice (some ⟨g, 0, none⟩) n c) xs) {i : Nat} (hi : i < n) (x : α) :
    Own enc k e (putAll w g (i * k) (enc x)) base (.slice (some ⟨g, 0, none⟩) n c) (xs.set i x) ∧ w.grownBy (putAll w g (i * k) (enc x)) (some g) := by
  have hl := h.len
  subst hl
  obtain ⟨cells, hE, h⟩ := h
  obtain ⟨h1, h2⟩ := putAll_row (enc x) w (i * k) cells h
  exact ⟨⟨_, hE.set hk hi x, by rw [List.length_set]; exact h1⟩, h2⟩
end
theorem Own.store {α : Type} {enc : α → List Value} {k : Nat} {e : TypeId} {w : World} {base : Nat} {v : Value} {xs : List α} (h : Own enc k e w base v xs) {b : Nat} (hb : b < base) (i : Nat) (x : Value) : Own enc k e (w.setCell ⟨b, i, none⟩ x) base v xs :=
  h.grown (row := some b) ⟨rfl, rfl, rfl, by simp [World.setCell], fun j _ hne => Below.heap_setCell _ _ _ _ (fun e => hne (by rw [e]))⟩ (.inr (fun e => by have := (h.lt e).1; omega))
theorem frz_below {w w' : World} {p : Addr} (h : w.frozen? p = false) (hp : p.block < w.heap.size) (hb : Below w.heap.size w w') : w'.frozen? p = false := (hb.frozen hp).trans h
theorem Own.notin {α : Type} {enc : α → List Value} {k : Nat} {e : TypeId} {w : World} {base : Nat} {v : Value} {xs : List α} (h : Own enc k e w base v xs) {b : Nat} (hb : b < base) : v.ownBlock ≠ some b := fun e => by
  have := (h.lt e).1
  omega
theorem below_of_grown {B : Nat} {a w w' : World} {g : Nat} (hb : Below B a w) (hg : w.grownBy w' (some g)) (hB : B ≤ g) (hw : g < w.heap.size) : Below B a w' :=
  hb.grown hg (by omega) (fun k hk => by cases hk; exact hB)
theorem below_own {B : Nat} {a w w' : World} {row : Option Nat} (hb : Below B a w) (hg : w.grownBy w' row) (hB : ∀ g, row = some g → B ≤ g) (hw : B ≤ w.heap.size := by omega) : Below B a w' := hb.grown hg hw hB
theorem Own.apart {α β : Type} {enc : α → List Value} {enc' : β → List Value} {k k' : Nat} {e e' : TypeId} {w w' : World} {base base' : Nat} {v v' : Value} {xs : List α} {ys : List β} (h : Own enc k e w base v xs) (h' : Own enc' k' e' w' base' v' ys) (hb : w.heap.size ≤ base') : v.ownBlock = none ∨ v.ownBlock ≠ v'.ownBlock := by
  cases hv : v.ownBlock with
  | none => exact .inl rfl
  | some g =>
    refine .inr fun e => ?_
    · have h1 := (h.lt hv).2
      have h2 := (h'.lt e.symm).1
      omega
/-- Rows of two types lie apart. -/
theorem Own.apart_ty {α β : Type} {enc : α → List Value} {enc' : β → List Value} {k k' : Nat} {e e' : TypeId} {w : World} {base base' : Nat} {v v' : Value} {xs : List α} {ys : List β} (h : Own enc k e w base v xs) (h' : Own enc' k' e' w base' v' ys) (he : e ≠ e') : v.ownBlock = none ∨ v.ownBlock ≠ v'.ownBlock := by
  obtain ⟨c1, _, _, hv⟩ := h
  obtain ⟨c2, _, _, hv'⟩ := h'
  rcases hv with ⟨rfl, _⟩ | ⟨g, cap, cur, rfl, _, hg, _⟩
  · exact .inl rfl
  · refine .inr fun q => ?_
    rcases hv' with ⟨rfl, _⟩ | ⟨g', cap', cur', rfl, _, hg', _⟩
    · cases q
    · obtain rfl : g = g' := by simpa [Value.ownBlock] using q
      rw [hg] at hg'
      injection hg' with q1
      injection q1 with _ q2 _
      exact he q2
/-- Element j is the mark of k + m * j. -/
def Mkd {α : Type} (mk : Int → α) (m k : Int) (xs : List α) : Prop := ∀ (j : Nat) y, xs[j]? = some y → y = mk (k + m * j)
theorem Mkd.congr {α : Type} {mk : Int → α} {m k : Int} {xs : List α} (h : Mkd mk m k xs) {j : Nat} {y : α} (hy : xs[j]? = some y) {q : Int} (hq : q = k + m * j) : y = mk q := by rw [hq]; exact h j y hy
theorem Own.own_none {α : Type} {enc : α → List Value} {k : Nat} {e : TypeId} {w : World} {base : Nat} {v : Value} {xs : List α} (h : Own enc k e w base v xs) (h0 : xs.length = 0) : v.ownBlock = none ∨ ∃ g c, v = .slice (some ⟨g, 0, none⟩) 0 c := by
  obtain ⟨cells, hE, h⟩ := h
  rcases h.2 with ⟨rfl, hn'⟩ | ⟨g, cap, cur, rfl, _⟩
  · exact .inl rfl
  · exact .inr ⟨g, cap, by rw [h0]⟩
theorem grown_trans' {a b c : World} {row : Option Nat} (h : a.grownBy b row) (k : b.grownBy c row) : a.grownBy c row :=
  ⟨k.os.trans h.os, k.tape.trans h.tape, k.output.trans h.output, Nat.le_trans h.size k.size, fun i hi hne => (k.block i (Nat.lt_of_lt_of_le hi h.size) hne).trans (h.block i hi hne)⟩
theorem grown_below {a b c : World} {row : Option Nat} (h : a.grownBy b row) (k : Below b.heap.size b c) : a.grownBy c row :=
  ⟨k.os.trans h.os, k.tape.trans h.tape, k.output.trans h.output, Nat.le_trans h.size k.size, fun i hi hne => (k.block i (Nat.lt_of_lt_of_le hi h.size)).trans (h.block i hi hne)⟩
/-- A block laid with all its elements. -/
theorem Own.lit {α : Type} {enc : α → List Value} {k : Nat} {e : TypeId} {base : Nat} (w : World) (cs : Array Value) (xs : List α) (n : Nat) (hb : base ≤ w.heap.size) (hn : xs.length = n) (hm : n ≤ maxLen) (hE : Enc enc k xs cs.toList) :
    Own enc k e (w.alloc (.cells cs e)) base (.slice (some ⟨w.heap.size, 0, none⟩) n n) xs := by
  subst hn
  exact ⟨_, hE, World.ownsRow_lit w cs xs.length hb hm (by have := hE.1; simpa using this)⟩
/-- Elements of one cell each, laid. -/
theorem Enc.map {α : Type} (f : α → Value) : ∀ xs : List α, Enc (fun x => [f x]) 1 xs (xs.map f)
  | xs => by
    refine ⟨by simp, fun i x hx j u hu => ?_⟩
    cases j with
    | zero =>
      obtain rfl : f x = u := by simpa using hu
      simp [hx]
    | succ j => simp at hu
/-! ### make -/
theorem made_get (z : Array Value) (n j : Nat) (hj : j < n) (hz : 0 < z.size) : (madeCells z n).toList[j]? = z.toList[j % z.size]? := by
  have h2 : j % z.size < z.size := Nat.mod_lt _ hz
  simp [madeCells, hj, h2]
theorem Enc.made {α : Type} {enc : α → List Value} {k : Nat} (z : Value) (zx : α) (n : Nat) (hz : z.cells.toList = enc zx) (hk : (enc zx).length = k) (h0 : 0 < k) : Enc enc k (List.replicate n zx) (madeCells z.cells (n * k)).toList := by
  have hs : z.cells.size = k := by rw [← Array.length_toList, hz, hk]
  refine ⟨by rw [Array.length_toList, size_madeCells, List.length_replicate], fun i x hx j u hu => ?_⟩
  rw [List.getElem?_replicate] at hx
  split at hx
  · rename_i hi
    obtain rfl := Option.some.inj hx
    have hj : j < k := by rw [← hk]; exact (List.getElem?_eq_some_iff.1 hu).1
    rw [made_get _ _ _ (by have := mul_lt (r := 0) hi hj; omega) (by omega), hs, Nat.mul_comm, Nat.mul_add_mod, Nat.mod_eq_of_lt hj, hz]
    exact hu
  · cases hx
section
variable {P : Program} {ops : Array Oper} {rest : List Oper} {o : Oper} {a : Act} {Q : Exit → Act → World → Prop}
/-- make([]T, n), behind at_make. -/
theorem wp_make {α : Type} (enc : α → List Value) (k : Nat) (w : World) (base : Nat) (hgd : o.guard = none) (l c : Operand) (t e : TypeId) (ho : o.op = .makeSlice t l c) (ht : P.underlying t = some (.slice e))
    (z : Value) (bytes : Nat) (hinfo : (P.info? e).map (fun i => (i.zero, i.size, i.bytes)) = some (some z, k, bytes)) (zx : α) (hz : z.cells.toList = enc zx) (hk : (enc zx).length = k) (h0 : 0 < k)
    (n : Nat) (hl : a.eval l = .int .i64 (n : Int)) (hc : a.eval c = .int .i64 (n : Int)) (hn : n * bytes ≤ 140737488355328) (hm : n ≤ maxLen) (hbase : base ≤ w.heap.size)
    (hK : ∀ g w', Own enc k e w' base (.slice (some ⟨g, 0, none⟩) n n) (List.replicate n zx) → Below w.heap.size w w' → wpList P ops Q rest (a.put o.dst (.slice (some ⟨g, 0, none⟩) n n)) w') : wpList P ops Q (o :: rest) a w := by
  obtain ⟨i, hi, hz1, hz2, hz3⟩ := info_parts hinfo
  refine wpList_make_full w hgd l c t ho base e i z k ht hi hz1 hz2 .i64 .i64 (n : Int) (n : Int) n hl hc rfl rfl (by rw [hz3, Nat.mul_comm]; omega) hm hbase fun w' hw' hg => ?_
  exact hK _ _ ⟨_, Enc.made z zx n hz hk h0, by rw [List.length_replicate]; exact hw'⟩ ⟨hg.os, hg.tape, hg.output, hg.size, fun k hk => hg.block k hk (by simp)⟩
/-- append(v, y), the element laid just ahead in a block of its own. -/
theorem wp_append1 {α : Type} (enc : α → List Value) (k : Nat) (w : World) (base : Nat) (hgd : o.guard = none) (s x : Operand) (t e tb : TypeId) (ho : o.op = .call { callee := .builtin .append, args := #[s, x], argTypes := #[t, t] }) (ht : P.underlying t = some (.slice e))
    (z : Value) (bytes : Nat) (hinfo : (P.info? e).map (fun i => (i.zero, i.size, i.bytes)) = some (some z, k, bytes)) (zx : α) (hz : z.cells.toList = enc zx) (hk : ∀ y, (enc y).length = k) (h0 : 0 < k) (h1 : ∀ y, ∀ u ∈ enc y, u.oneCell' = true)
    (v : Value) (xs : List α) (hs : a.eval s = v) (hown : Own enc k e w base v xs) (y : α) (cs : Array Value) (hcs : cs.toList = enc y) (hx : a.eval x = .slice (some ⟨w.heap.size, 0, none⟩) 1 1)
    (hn : (xs.length + 1) * bytes ≤ 140737488355328) (hm : xs.length + 1 ≤ maxLen) (hbase : base ≤ w.heap.size)
    (hK : ∀ v' w', Own enc k e w' base v' (xs ++ [y]) → w.grownBy w' v.ownBlock → wpList P ops Q rest (a.put o.dst v') w') : wpList P ops Q (o :: rest) a (w.alloc (.cells cs tb)) := by
  obtain ⟨i, hi, hz1, hz2, hz3⟩ := info_parts hinfo
  obtain ⟨cells, hE, hr⟩ := hown.alloc (.cells cs tb)
  refine wpList_append_own _ hgd s x t ho base e i z k bytes ht hi hz1 hz2 hz3 (by rw [← Array.length_toList, hz, hk]) h0 v xs.length cells hs hr ⟨w.heap.size, 0, none⟩ 1 1 (enc y) hx (by rw [hk, Nat.one_mul]) ?_ (h1 y) hm hn (by simp; omega) fun v' w' h2 h3 _ => ?_
  · intro j u hj
    have e : ((⟨w.heap.size, 0, none⟩ : Addr).add j) = ⟨w.heap.size, j, none⟩ := by
      unfold Addr.add
      split <;> simp_all
    rw [e, blk_new w cs tb j, ← Array.getElem?_toList, hcs, hj]
  · exact hK v' w' ⟨_, hE.snoc y (hk y), by rw [List.length_append, List.length_singleton]; exact h2⟩ (grown_trans' (World.grownBy_alloc _ _ _) h3)
/-- make([]T, m) with literal operands, behind at_make. -/
theorem wp_makeL {α : Type} (enc : α → List Value) (k : Nat) (w : World) (base : Nat) (hgd : o.guard = none) (m : Int) (t e : TypeId) (ho : o.op = .makeSlice t (.const (.int .i64 m)) (.const (.int .i64 m))) (ht : P.underlying t = some (.slice e))
    (z : Value) (bytes : Nat) (hinfo : (P.info? e).map (fun i => (i.zero, i.size, i.bytes)) = some (some z, k, bytes)) (zx : α) (hz : z.cells.toList = enc zx) (hk : (enc zx).length = k) (h0 : 0 < k)
    (n : Nat) (hmn : m = (n : Int)) (hn : n * bytes ≤ 140737488355328) (hm : n ≤ maxLen) (hbase : base ≤ w.heap.size)
    (hK : ∀ g w', Own enc k e w' base (.slice (some ⟨g, 0, none⟩) n n) (List.replicate n zx) → Below w.heap.size w w' → wpList P ops Q rest (a.put o.dst (.slice (some ⟨g, 0, none⟩) n n)) w') : wpList P ops Q (o :: rest) a w := by
  subst hmn
  exact wp_make enc k w base hgd _ _ t e ho ht z bytes hinfo zx hz hk h0 n rfl rfl hn hm hbase hK
end
end Go.Proofs.Ytjnmhpldabbeiaa.M
end
section
namespace Go.Proofs.Ytjnmhpldabbeiaa.M
open Go.ChangeShapes Go.WideShapes Go.ChangeAt Go.RowKit
/-! ### the row's end: a law's call leaves what was there as it was -/
section
variable {H : Type} {enc : TypeId × Value → H} {P : Program}
theorem trodAll_stays (hl : laidOutB P = true) {W W' : World} {base : Nat} {sp' : Nat → Bool} : ∀ {ts : List TypeId} {vs : List Value} {ds : List (DataW H)} {ps : List MemPlace}, (ts.all fun t => P.readableRec t && decide (t < P.types.size)) = true →
    DataW.TrodAll enc P W base (fun _ => true) true ts vs ds ps → (∀ p ∈ ps, W.sameAt W' p) → (∀ p ∈ ps, sp' p.block = true) → DataW.TrodAll enc P W' base sp' true ts vs ds ps
  | [], vs, ds, ps, _, h, _, _ => by
    obtain ⟨rfl, rfl, rfl⟩ := trodAll_nil h
    exact trodAll_mk0
  | t :: ts, vs, ds, ps, hr, h, hsame, hs => by
    obtain ⟨v, vs', d, ds', p, q, rfl, rfl, rfl, h0, h1⟩ := trodAll_cons h
    simp only [List.all_cons, Bool.and_eq_true, decide_eq_true_eq] at hr
    exact trodAll_cons_mk (WideElems.Trod_stays hl hr.1.1 hr.1.2 h0 (fun x hx => hsame x (List.mem_append_left _ hx)) (fun x hx => hs x (List.mem_append_left _ hx)))
      (trodAll_stays hl hr.2 h1 (fun x hx => hsame x (List.mem_append_right _ hx)) (fun x hx => hs x (List.mem_append_right _ hx)))
theorem post_of_below {f : Func} {s : ChangeSpec} {apart fresh handsOn again : Bool} {W W' : World} {args : Array Value} {v : Value} {ds gs : List (DataW H)} {before pa pv : List MemPlace}
    (hW : DataW.Whole enc P f.params.toList s.vars apart W args.toList ds gs before)
    (hres : ∀ (b : Nat) (sp : Nat → Bool) (hd : Bool), DataW.TrodAll enc P W' b sp hd f.resultTypes.toList (v.resultList f.resultTypes.size) (s.fn H (ds ++ gs)).results [])
    (hargs : ∀ sp : Nat → Bool, (∀ p ∈ before, sp p.block = true) → DataW.TrodAll enc P W' 0 sp true f.params.toList args.toList (s.fn H (ds ++ gs)).args pa)
    (hvars : ∀ sp : Nat → Bool, (∀ p ∈ before, sp p.block = true) → DataW.TrodVars enc P W' sp s.vars (s.fn H (ds ++ gs)).vars pv)
    (hps : before = pa ++ pv) (hb : Below W.heap.size W W')
    (hok : ∀ (j : Nat) (t : TypeId) (r : Value), f.resultTypes[j]? = some t → (v.resultList f.resultTypes.size)[j]? = some r → Value.okWide P W' .any 0 t r) :
    s.post enc P f apart fresh handsOn again W args v W' := by
  have hlt : ∀ p ∈ before, p.block < W.heap.size := fun p hp => hW.lt p hp
  have hold : ∀ p ∈ before, (fun b => decide (b < W.heap.size)) p.block = true := fun p hp => by simpa using hlt p hp
  refine ⟨ds, gs, before, [], pa, pv, hW, hres _ _ _, hargs _ hold, hvars _ hold, World.keptBut_mono (fun p hp => ⟨hp, ?_⟩) (hb.frame (· ∈ before)), fun _ => ?_⟩
  · rw [hps, List.mem_append] at hp
    exact Or.inr hp
  · obtain ⟨_, _, _, _, _, hz, hn⟩ := hW
    refine ⟨hok, _, _, ([] ++ pa) ++ pv, ⟨[] ++ pa, pv, trodAll_append (hargs _ (fun _ _ => rfl)) (hres _ _ _), hvars _ (fun _ _ => rfl), rfl, ?_, ?_⟩, ?_⟩
    · intro b off hp
      have hin : MemPlace.cell b off ∈ before := by rw [hps]; simpa using hp
      rw [hb.frozen (hlt _ hin)]
      exact hz b off hin
    · intro ha
      have := hn ha
      rw [hps] at this
      simpa using this
    · intro p hp _
      rw [hps]
      simpa using hp
/-- A law's post: true, and each argument reads as it did. -/
theorem law_post {f : Func} {s : ChangeSpec} {tb : TypeId} {apart fresh handsOn again : Bool} (hl : laidOutB P = true) (htb : P.underlying tb = some .bool) (hft : f.resultTypes = #[tb]) (hvars : s.vars = [])
    (hr : (f.params.toList.all fun t => P.readableRec t && decide (t < P.types.size)) = true)
    {W W' : World} {args : Array Value} {ds gs : List (DataW H)} {before : List MemPlace} (hW : DataW.Whole enc P f.params.toList s.vars apart W args.toList ds gs before) (hb : Below W.heap.size W W')
    (hs : (s.fn H (ds ++ gs)).results = [.lit (.bool true)] ∧ (s.fn H (ds ++ gs)).args = ds ∧ (s.fn H (ds ++ gs)).vars = []) :
    s.post enc P f apart fresh handsOn again W args (.bool true) W' := by
  have hlt : ∀ p ∈ before, p.block < W.heap.size := fun p hp => hW.lt p hp
  have hW' := hW
  obtain ⟨p, q, hA0, hV, rfl, hfz, hnd⟩ := hW
  rw [hvars] at hV
  obtain ⟨rfl, rfl⟩ := trodVars_none hV
  refine post_of_below (pa := p) (pv := []) hW' (fun b sp hd => ?_) (fun sp hsp => ?_) (fun sp hsp => ?_) rfl hb ?_
  · rw [hs.1, hft]
    exact trodAll_cons_mk (p := []) (p' := []) (shut_bool htb _) trodAll_mk0
  · rw [hs.2.1]
    exact trodAll_stays hl hr hA0 (fun x hx => hb.same (hlt x (by simpa using hx))) (fun x hx => hsp x (by simpa using hx))
  · rw [hs.2.2, hvars]
    exact rfl
  · exact ok_one hft rfl (okWide_bool_mk htb _)
end
/-! ### arguments opened -/
theorem choose_list {α : Type} : ∀ {n : Nat} {Pr : Nat → α → Prop}, (∀ i, i < n → ∃ x, Pr i x) → ∃ xs : List α, xs.length = n ∧ ∀ i x, xs[i]? = some x → Pr i x
  | 0, Pr, _ => ⟨[], rfl, fun i x h => by simp at h⟩
  | n + 1, Pr, h => by
    obtain ⟨x, hx⟩ := h 0 (by omega)
    obtain ⟨xs, hl, hxs⟩ := choose_list (n := n) (Pr := fun i => Pr (i + 1)) (fun i hi => h (i + 1) (by omega))
    refine ⟨x :: xs, by simp [hl], fun i y hy => ?_⟩
    cases i with
    | zero => obtain rfl : x = y := by simpa using hy
              exact hx
    | succ i => exact hxs i y (by simpa using hy)
section
variable {H : Type} {enc : TypeId × Value → H} {P : Program} {w : World} {base : Nat} {spare : Nat → Bool} {held : Bool}
theorem open_row {α : Type} {encE : α → List Value} {G : α → Prop} {k : Nat} {t e : TypeId} (ht : P.underlying t = some (.slice e)) (hC : P.cellsOf e = k)
    (hel : ∀ {fuel : Nat} {cs : List Value} {x : DataW H × List MemPlace}, DataW.trod enc P w base spare held fuel e cs = some x → ∃ y, cs = encE y ∧ G y)
    {fuel : Nat} {cs : List Value} {x : DataW H × List MemPlace} (h : DataW.trod enc P w base spare held fuel t cs = some x) :
    ∃ (A : Option Addr) (xs : List α) (c : Nat), cs = [.slice A xs.length c] ∧ xs.length ≤ c ∧ c ≤ maxLen ∧ Row encE k w A xs ∧ ∀ (i : Nat) (y : α), xs[i]? = some y → G y := by
  subst hC
  rcases Go.Deep.open_slice ht h with ⟨rfl, _⟩ | ⟨a, len, cap, m, n, D, Pl, rfl, hb, hl, hm, hmm, hx, hi⟩
  · exact ⟨none, [], 0, rfl, by simp, by unfold maxLen; omega, Row.nil _ _ _ _, fun i y hy => by simp at hy⟩
  · have hlm : len ≤ m := by rw [hmm]; split <;> omega
    obtain ⟨xs, hxl, hxs⟩ := choose_list (n := len) (Pr := fun i y => At w (a.add (i * P.cellsOf e)) (encE y) ∧ G y) (fun i hil => by
      obtain ⟨cs', hc, ht'⟩ := hi i (by omega)
      obtain ⟨y, rfl, hG⟩ := hel ht'
      obtain ⟨_, hcl, hat⟩ := World.cells?_some hc
      refine ⟨y, At.of_add fun j v hv => ?_, hG⟩
      rw [hat j (by rw [← hcl]; exact (List.getElem?_eq_some_iff.1 hv).1), hv])
    subst hxl
    exact ⟨some a, xs, cap, rfl, hl, hm, fun i y hy => ⟨a, rfl, (hxs i y hy).1⟩, fun i y hy => (hxs i y hy).2⟩
/-- A value's own reading, from its cells. -/
theorem open_row_v {α : Type} {encE : α → List Value} {G : α → Prop} {k : Nat} {t e : TypeId} (ht : P.underlying t = some (.slice e)) (hC : P.cellsOf e = k) {r : Reach} {b0 : Nat} {v : Value} {d : DataW H} {p : List MemPlace}
    (hel : ∀ {fuel : Nat} {cs : List Value} {x : DataW H × List MemPlace}, DataW.trod enc P w base spare held fuel e cs = some x → ∃ y, cs = encE y ∧ G y)
    (hv : Value.okWide P w r b0 t v) (h : DataW.Trod enc P w base spare held t v d p) :
    ∃ (A : Option Addr) (xs : List α) (c : Nat), v = .slice A xs.length c ∧ xs.length ≤ c ∧ c ≤ maxLen ∧ Row encE k w A xs ∧ ∀ (i : Nat) (y : α), xs[i]? = some y → G y := by
  obtain ⟨a, len, cap, rfl⟩ := okWide_slice ht hv
  obtain ⟨fuel, hf⟩ := h
  obtain ⟨A, xs, c, hcs, h1⟩ := open_row ht hC hel hf
  obtain hcs : [Value.slice a len cap] = [.slice A xs.length c] := hcs
  exact ⟨A, xs, c, (List.cons.inj hcs).1, h1⟩
/-- A struct's field of one cell. -/
theorem field_of {t : TypeId} {fs : Array Field} {fuel : Nat} {cs : List Value} {x : DataW H × List MemPlace} (ht : P.underlying t = some (.struct fs)) (h : DataW.trod enc P w base spare held fuel t cs = some x) :
    cs.length = P.cellsOf t ∧ ∀ (i : Nat) (f : Field), fs[i]? = some f → ∃ n y, DataW.trod enc P w base spare held n f.type ((cs.drop f.offset).take (P.cellsOf f.type)) = some y := by
  obtain ⟨xs, n, _, _, hlen, hsz, hf⟩ := DataW.trod_struct ht h
  refine ⟨hlen, fun i f hi => ?_⟩
  have hil : i < xs.length := by rw [hsz]; exact (Array.getElem?_eq_some_iff.1 hi).1
  exact ⟨n, _, (hf i f hi).trans (List.getElem?_eq_getElem hil)⟩
theorem open_struct_v {t : TypeId} {fs : Array Field} (ht : P.underlying t = some (.struct fs)) {r : Reach} {b0 : Nat} {v : Value} {d : DataW H} {p : List MemPlace} (hv : Value.okWide P w r b0 t v) (h : DataW.Trod enc P w base spare held t v d p) :
    ∃ (cs : List Value) (fuel : Nat) (x : DataW H × List MemPlace), v = .agg cs.toArray ∧ DataW.trod enc P w base spare held fuel t cs = some x := by
  obtain ⟨⟨cs⟩, rfl, _⟩ := okWide_struct ht hv
  obtain ⟨fuel, hf⟩ := h
  exact ⟨cs, fuel, _, rfl, hf⟩
theorem field_one {t : TypeId} {fs : Array Field} {fuel : Nat} {cs : List Value} {x : DataW H × List MemPlace} (ht : P.underlying t = some (.struct fs)) (h : DataW.trod enc P w base spare held fuel t cs = some x)
    (i : Nat) (f : Field) (hi : fs[i]? = some f) (ft : TypeId) (off : Nat) (e1 : f.type = ft) (e2 : f.offset = off) (hC : P.cellsOf ft = 1) (hoff : off < P.cellsOf t) :
    ∃ v n y, cs[off]? = some v ∧ DataW.trod enc P w base spare held n ft [v] = some y := by
  obtain ⟨hl, hf⟩ := field_of ht h
  obtain ⟨n, y, hy⟩ := hf i f hi
  rw [e1, e2, hC, List.drop_eq_getElem_cons (by omega)] at hy
  exact ⟨_, n, y, List.getElem?_eq_getElem (by omega), hy⟩
end
theorem own_knob : ownKnob Try.prog.godebug = none := by kernel_rfl
theorem laid_out : laidOutB Try.prog = true := by kernel_rfl
theorem cells_int64 : Try.prog.cellsOf 2 = 1 := by kernel_rfl
theorem cells_bool : Try.prog.cellsOf 4 = 1 := by kernel_rfl
theorem cells_string : Try.prog.cellsOf 9 = 1 := by kernel_rfl
theorem cells_uint8 : Try.prog.cellsOf 5 = 1 := by kernel_rfl
section
variable {H : Type} {enc : TypeId × Value → H} {w : World} {base : Nat} {spare : Nat → Bool} {held : Bool}
theorem el_int64 {fuel : Nat} {cs : List Value} {x : DataW H × List MemPlace} (h : DataW.trod enc Try.prog w base spare held fuel 2 cs = some x) : ∃ y : Int, cs = [.int .i64 y] ∧ True := by
  obtain ⟨a, ea, _, wa⟩ := DataW.trod_int Try.underlying2 h
  exact ⟨a, ea, trivial⟩
theorem el_bool {fuel : Nat} {cs : List Value} {x : DataW H × List MemPlace} (h : DataW.trod enc Try.prog w base spare held fuel 4 cs = some x) : ∃ y : Bool, cs = [.bool y] ∧ True := by
  obtain ⟨a, ea, _⟩ := DataW.trod_bool Try.underlying4 h
  exact ⟨a, ea, trivial⟩
theorem el_uint8 {fuel : Nat} {cs : List Value} {x : DataW H × List MemPlace} (h : DataW.trod enc Try.prog w base spare held fuel 5 cs = some x) : ∃ y : Int, cs = [.int .u8 y] ∧ 0 ≤ y ∧ y ≤ 255 := by
  obtain ⟨a, ea, _, wa⟩ := DataW.trod_int Try.underlying5 h
  exact ⟨a, ea, bounds_u8 wa⟩
theorem el_int64b {fuel : Nat} {cs : List Value} {x : DataW H × List MemPlace} (h : DataW.trod enc Try.prog w base spare held fuel 2 cs = some x) : ∃ y : Int, cs = [.int .i64 y] ∧ -9223372036854775808 ≤ y ∧ y ≤ 9223372036854775807 := by
  obtain ⟨a, ea, _, wa⟩ := DataW.trod_int Try.underlying2 h
  exact ⟨a, ea, bounds_i64 wa⟩
end
end Go.Proofs.Ytjnmhpldabbeiaa.M
end
section
namespace Go.Proofs.Ytjnmhpldabbeiaa.L
open Go.RowKit Go.Proofs.YtjnmhpldabbeiaaW.PrintWords Go.Proofs.YtjnmhpldabbeiaaW.PrintLast Go.Proofs.YtjnmhpldabbeiaaW.PrintMore
theorem w64 {x : Int} (h0 : -9223372036854775808 ≤ x) (h1 : x ≤ 9223372036854775807) : wrap64 x = x := by unfold wrap64; omega
theorem len1 {α : Type} : ∀ {l : List α}, l.length = 1 → ∃ a, l = [a] | [a], _ => ⟨a, rfl⟩
theorem len2 {α : Type} : ∀ {l : List α}, l.length = 2 → ∃ a b, l = [a, b] | [a, b], _ => ⟨a, b, rfl⟩
theorem len3 {α : Type} : ∀ {l : List α}, l.length = 3 → ∃ a b c, l = [a, b, c] | [a, b, c], _ => ⟨a, b, c, rfl⟩
theorem len5 {α : Type} : ∀ {l : List α}, l.length = 5 → ∃ a b c d e, l = [a, b, c, d, e] | [a, b, c, d, e], _ => ⟨a, b, c, d, e, rfl⟩
theorem len8 {α : Type} : ∀ {l : List α}, l.length = 8 → ∃ a b c d e f g h, l = [a, b, c, d, e, f, g, h] | [a, b, c, d, e, f, g, h], _ => ⟨a, b, c, d, e, f, g, h, rfl⟩
theorem Ev.succ {α : Type} {g : Nat → Option α} {r : α} (h : Ev (fun k => g (k + 1)) r) : Ev g r := Ev.step (fun _ => rfl) h
theorem Ev.eq {α : Type} {g : Nat → Option α} {r r' : α} (h : Ev g r) (e : r = r') : Ev g r' := e ▸ h
theorem Ev.pos {α : Type} {c : Prop} [Decidable c] {f g : Nat → Option α} {r : α} (hc : c) (h : Ev f r) : Ev (fun k => if c then f k else g k) r := Ev.congr (fun k => if_pos hc) h
theorem Ev.neg {α : Type} {c : Prop} [Decidable c] {f g : Nat → Option α} {r : α} (hc : ¬ c) (h : Ev g r) : Ev (fun k => if c then f k else g k) r := Ev.congr (fun k => if_neg hc) h
/-- A callee without rounds. -/
theorem Ev.bind0 {α β : Type} {o : Option α} {f : Nat → α → Option β} {a : α} {r : β} (h : o = some a) (k : Ev (fun n => f n a) r) : Ev (fun n => o.bind (f n)) r := Ev.congr (fun n => by rw [h]; rfl) k
theorem Ev.bind1 {α β : Type} {g : Nat → Option α} {f : Nat → α → Option β} {a : α} {r : β} (h : Ev g a) (k : Ev (fun n => f n a) r) : Ev (fun n => (g n).bind (f n)) r := Ev.bind h k
theorem Ev.one {α : Type} {o : Option α} {r : α} (h : o = some r) : Ev (fun _ => o) r := ⟨0, fun _ _ => h⟩
theorem rd_nat (l : List Int) (i : Nat) (h : i < l.length) : rd l (i : Int) = l[i] := by simp [rd, List.getD_eq_getElem?_getD, h]
theorem rd_get? {l : List Int} {i : Nat} {x : Int} (h : l[i]? = some x) : rd l (i : Int) = x := by simp [rd, List.getD_eq_getElem?_getD, h]
/-- Copying element by element into as many places. -/
theorem copy_loop {α : Type} (g : Nat → List α → Int → Option (List α)) (xs : List α) (step : ∀ k (ys : List α) (i : Nat) (h : i < xs.length), ys.length = xs.length → g (k + 1) ys i = g k (ys.set i xs[i]) ((i + 1 : Nat) : Int))
    (fin : ∀ k (ys : List α), g (k + 1) ys xs.length = some ys) : ∀ (d i : Nat) (ys : List α), xs.length - i = d → i ≤ xs.length → ys.length = xs.length → Ev (fun k => g k (xs.take i ++ ys.drop i) i) xs
  | 0, i, ys, hd, hi, hl => by
    obtain rfl : i = xs.length := by omega
    refine Ev.succ (Ev.congr (fun k => fin k _) (Ev.one ?_))
    rw [List.take_length, ← hl, List.drop_length, List.append_nil]
  | d + 1, i, ys, hd, hi, hl => by
    have h : i < xs.length := by omega
    refine Ev.succ (Ev.congr (fun k => step k _ i h (by simp; omega)) ?_)
    have := copy_loop g xs step fin d (i + 1) ys (by omega) (by omega) hl
    refine Ev.congr (fun k => ?_) this
    congr 1
    rw [List.set_append_right _ _ (by simp; omega), List.take_succ_eq_append_getElem h, List.append_assoc]
    congr 1
    rw [List.length_take, Nat.min_eq_left (by omega), Nat.sub_self, List.drop_eq_getElem_cons (by omega : i < ys.length), List.set_cons_zero]
    rfl
theorem copy_all {α : Type} (g : Nat → List α → Int → Option (List α)) (xs : List α) (z : α) (step : ∀ k (ys : List α) (i : Nat) (h : i < xs.length), ys.length = xs.length → g (k + 1) ys i = g k (ys.set i xs[i]) ((i + 1 : Nat) : Int))
    (fin : ∀ k (ys : List α), g (k + 1) ys xs.length = some ys) : Ev (fun k => g k (List.replicate xs.length z) 0) xs := by
  have := copy_loop g xs step fin xs.length 0 (List.replicate xs.length z) rfl (by omega) (by simp)
  simpa using this
/-- A loop over places that only goes on. -/
theorem all_loop {β : Type} (g : Nat → Int → Option β) (n : Nat) (r : β) (step : ∀ k (i : Nat), i < n → g (k + 1) i = g k ((i + 1 : Nat) : Int)) (fin : ∀ k, g (k + 1) n = some r) : ∀ (d i : Nat), n - i = d → i ≤ n → Ev (fun k => g k i) r
  | 0, i, hd, hi => by
    obtain rfl : i = n := by omega
    exact Ev.succ (Ev.congr (fun k => fin k) (Ev.now _))
  | d + 1, i, hd, hi => Ev.succ (Ev.congr (fun k => step k i (by omega)) (all_loop g n r step fin d (i + 1) (by omega) (by omega)))
theorem all_all {β : Type} (g : Nat → Int → Option β) (n : Nat) (r : β) (step : ∀ k (i : Nat), i < n → g (k + 1) i = g k ((i + 1 : Nat) : Int)) (fin : ∀ k, g (k + 1) n = some r) : Ev (fun k => g k 0) r := all_loop g n r step fin n 0 rfl (by omega)
/-- The same where a round calls what has rounds of its own. -/
theorem ev_loop {β : Type} (g : Nat → Int → Option β) (n : Nat) (r : β) (step : ∀ (i : Nat), i < n → Ev (fun k => g k ((i + 1 : Nat) : Int)) r → Ev (fun k => g (k + 1) i) r) (fin : Ev (fun k => g (k + 1) n) r) : ∀ (d i : Nat), n - i = d → i ≤ n → Ev (fun k => g k i) r
  | 0, i, hd, hi => by
    obtain rfl : i = n := by omega
    exact Ev.succ fin
  | d + 1, i, hd, hi => Ev.succ (step i (by omega) (ev_loop g n r step fin d (i + 1) (by omega) (by omega)))
theorem ev_all {β : Type} (g : Nat → Int → Option β) (n : Nat) (r : β) (step : ∀ (i : Nat), i < n → Ev (fun k => g k ((i + 1 : Nat) : Int)) r → Ev (fun k => g (k + 1) i) r) (fin : Ev (fun k => g (k + 1) n) r) : Ev (fun k => g k 0) r := ev_loop g n r step fin n 0 rfl (by omega)
/-- Marks: element j gets mk x_j (m + c * j). -/
def marked {α : Type} (mk : α → Int → α) (c : Int) : Int → List α → List α
  | _, [] => []
  | m, x :: xs => mk x m :: marked mk c (m + c) xs
theorem marked_length {α : Type} (mk : α → Int → α) (c : Int) : ∀ (m : Int) (xs : List α), (marked mk c m xs).length = xs.length
  | _, [] => rfl
  | m, x :: xs => by simp [marked, marked_length mk c (m + c) xs]
theorem marked_get {α : Type} (mk : α → Int → α) (c : Int) : ∀ (m : Int) (xs : List α) (j : Nat) (h : j < xs.length), (marked mk c m xs)[j]'(by rw [marked_length]; exact h) = mk xs[j] (m + c * j)
  | m, x :: xs, 0, _ => by simp [marked]
  | m, x :: xs, j + 1, h => by
    simp only [marked, List.getElem_cons_succ]
    rw [marked_get mk c (m + c) xs j (by simpa using h)]
    congr 1
    have : c * ((j + 1 : Nat) : Int) = c * (j : Int) + c := by rw [Int.natCast_add, Int.mul_add]; simp
    omega
theorem mark_loop {α : Type} (g : Nat → List α → Int → Int → Option (Int × List α)) (mk : α → Int → α) (c : Int) (hc : 0 ≤ c) (hc2 : c ≤ 4096) (xs : List α) (m : Int) (hm0 : 0 ≤ m) (hm : m + c * xs.length ≤ 4611686018427387904)
    (step : ∀ k (ys : List α) (i : Nat) (q : Int) (h : i < xs.length) (hl : ys.length = xs.length), ys[i] = xs[i] → 0 ≤ q → q ≤ 4611686018427387904 → g (k + 1) ys q i = g k (ys.set i (mk xs[i] q)) (q + c) ((i + 1 : Nat) : Int))
    (fin : ∀ k (ys : List α) (q : Int), ys.length = xs.length → g (k + 1) ys q xs.length = some (q, ys)) : ∀ (d i : Nat), xs.length - i = d → i ≤ xs.length → Ev (fun k => g k ((marked mk c m xs).take i ++ xs.drop i) (m + c * i) i) (m + c * xs.length, marked mk c m xs)
  | 0, i, hd, hi => by
    obtain rfl : i = xs.length := by omega
    refine Ev.succ (Ev.congr (fun k => fin k _ _ (by simp [marked_length])) (Ev.one ?_))
    rw [List.drop_length, List.append_nil, List.take_of_length_le (by rw [marked_length]; omega)]
  | d + 1, i, hd, hi => by
    have h : i < xs.length := by omega
    have hM : (marked mk c m xs).length = xs.length := marked_length mk c m xs
    have hle : c * (i : Int) ≤ c * (xs.length : Int) := Int.mul_le_mul_of_nonneg_left (by omega) hc
    have hge : 0 ≤ c * (i : Int) := Int.mul_nonneg hc (by omega)
    refine Ev.succ (Ev.congr (fun k => step k _ i _ h (by simp; omega) ?_ (by omega) (by omega)) ?_)
    · rw [List.getElem_append_right (by simp; omega)]
      simp [Nat.min_eq_left (Nat.le_of_lt h), hM, List.length_take]
    · have := mark_loop g mk c hc hc2 xs m hm0 hm step fin d (i + 1) (by omega) (by omega)
      have e : m + c * (i : Int) + c = m + c * ((i + 1 : Nat) : Int) := by rw [Int.natCast_add, Int.mul_add]; simp; omega
      refine Ev.congr (fun k => ?_) this
      rw [e]
      congr 1
      rw [List.set_append_right _ _ (by simp; omega), List.take_succ_eq_append_getElem (by omega : i < (marked mk c m xs).length), List.append_assoc, marked_get mk c m xs i h]
      congr 1
      rw [List.length_take, Nat.min_eq_left (by omega), Nat.sub_self, List.drop_eq_getElem_cons h, List.set_cons_zero]
      rfl
theorem mark_all {α : Type} (g : Nat → List α → Int → Int → Option (Int × List α)) (mk : α → Int → α) (c : Int) (hc : 0 ≤ c) (hc2 : c ≤ 4096) (xs : List α) (m : Int) (hm0 : 0 ≤ m) (hm : m + c * xs.length ≤ 4611686018427387904)
    (step : ∀ k (ys : List α) (i : Nat) (q : Int) (h : i < xs.length) (hl : ys.length = xs.length), ys[i] = xs[i] → 0 ≤ q → q ≤ 4611686018427387904 → g (k + 1) ys q i = g k (ys.set i (mk xs[i] q)) (q + c) ((i + 1 : Nat) : Int))
    (fin : ∀ k (ys : List α) (q : Int), ys.length = xs.length → g (k + 1) ys q xs.length = some (q, ys)) : Ev (fun k => g k xs m 0) (m + c * xs.length, marked mk c m xs) := by
  have := mark_loop g mk c hc hc2 xs m hm0 hm step fin xs.length 0 (by omega) (by omega)
  simpa using this
/-- Held: the marks are found again. -/
theorem held_loop {α : Type} (g : Nat → Int → Int → Option Int) (c : Int) (hc : 0 ≤ c) (n : Nat) (m : Int) (hm0 : 0 ≤ m) (hm : m + c * n ≤ 4611686018427387904)
    (step : ∀ k (i : Nat), i < n → 0 ≤ m + c * i → m + c * i ≤ 4611686018427387904 → g (k + 1) (m + c * i) i = g k (m + c * i + c) ((i + 1 : Nat) : Int)) (fin : ∀ k (q : Int), g (k + 1) q n = some q) : ∀ (d i : Nat), n - i = d → i ≤ n → Ev (fun k => g k (m + c * i) i) (m + c * n)
  | 0, i, hd, hi => by
    obtain rfl : i = n := by omega
    exact Ev.succ (Ev.congr (fun k => fin k _) (Ev.now _))
  | d + 1, i, hd, hi => by
    have hle : c * (i : Int) ≤ c * (n : Int) := Int.mul_le_mul_of_nonneg_left (by omega) hc
    have hge : 0 ≤ c * (i : Int) := Int.mul_nonneg hc (by omega)
    have e : m + c * (i : Int) + c = m + c * ((i + 1 : Nat) : Int) := by rw [Int.natCast_add, Int.mul_add]; simp; omega
    refine Ev.succ (Ev.congr (fun k => step k i (by omega) (by omega) (by omega)) ?_)
    rw [e]
    exact held_loop (α := α) g c hc n m hm0 hm step fin d (i + 1) (by omega) (by omega)
theorem held_all (g : Nat → Int → Int → Option Int) (c : Int) (hc : 0 ≤ c) (n : Nat) (m : Int) (hm0 : 0 ≤ m) (hm : m + c * n ≤ 4611686018427387904)
    (step : ∀ k (i : Nat), i < n → 0 ≤ m + c * i → m + c * i ≤ 4611686018427387904 → g (k + 1) (m + c * i) i = g k (m + c * i + c) ((i + 1 : Nat) : Int)) (fin : ∀ k (q : Int), g (k + 1) q n = some q) : Ev (fun k => g k m 0) (m + c * n) := by
  have := held_loop (α := Unit) g c hc n m hm0 hm step fin n 0 (by omega) (by omega)
  simpa using this
end Go.Proofs.Ytjnmhpldabbeiaa.L
end
section
namespace Go.Proofs.Ytjnmhpldabbeiaa.M
open Go.RowKit Go.ChangeShapes Go.WideShapes Go.ChangeAt
section
variable {H : Type} {enc : TypeId × Value → H} {w : World} {base : Nat} {spare : Nat → Bool} {held : Bool} {fuel : Nat} {cs : List Value} {x : DataW H × List MemPlace}
end
end Go.Proofs.Ytjnmhpldabbeiaa.M
end
section
namespace Go.Proofs.Ytjnmhpldabbeiaa.Q
open Go.RowKit Go.Proofs.YtjnmhpldabbeiaaW.PrintWords Go.Proofs.YtjnmhpldabbeiaaW.PrintLast Go.Proofs.YtjnmhpldabbeiaaW.PrintMore Go.Proofs.Ytjnmhpldabbeiaa.L
theorem within_eq (a b c : Int) : impl_within.f a b c = some (decide (b ≤ a ∧ a ≤ c)) := by
  unfold impl_within.f
  by_cases h : b ≤ a <;> simp [h]
theorem l1In_eq (a b c : Int) : spec_l1In.f a b c = some (decide (b ≤ a ∧ a ≤ c)) := by
  unfold spec_l1In.f
  by_cases h : b ≤ a <;> simp [h]
end Go.Proofs.Ytjnmhpldabbeiaa.Q
end
section
namespace Go.Proofs.Ytjnmhpldabbeiaa.Q
open Go.RowKit Go.Proofs.YtjnmhpldabbeiaaW.PrintWords Go.Proofs.YtjnmhpldabbeiaaW.PrintLast Go.Proofs.YtjnmhpldabbeiaaW.PrintMore Go.Proofs.Ytjnmhpldabbeiaa.L
/-- Bytes of a draw's code. -/
structure CodeOk (l : List Int) : Prop where
  len : l.length ≤ 1048576
  byt : ∀ x ∈ l, 0 ≤ x ∧ x ≤ 255
/-- How far a source has been read: so far at most. -/
def Rd (at_ : Int) : Prop := 0 ≤ at_ ∧ at_ ≤ 1073741824
theorem rd_byt {l : List Int} (h : ∀ x ∈ l, 0 ≤ x ∧ x ≤ 255) (i : Int) : 0 ≤ rd l i ∧ rd l i ≤ 255 := by
  unfold rd
  rw [List.getD_eq_getElem?_getD]
  cases e : l[i.toNat]? with
  | none => simp
  | some x => exact h x (List.mem_of_getElem? e)
theorem tmod_in {a n : Int} (ha : 0 ≤ a) (hn : 1 ≤ n) : 0 ≤ Int.tmod a n ∧ Int.tmod a n < n := by
  rw [Int.tmod_eq_emod_of_nonneg ha]
  exact ⟨Int.emod_nonneg _ (by omega), Int.emod_lt_of_pos _ (by omega)⟩
theorem tdiv_in {a n : Int} (ha : 0 ≤ a) (hn : 1 ≤ n) : 0 ≤ Int.tdiv a n ∧ Int.tdiv a n ≤ a := by
  rw [Int.tdiv_eq_ediv_of_nonneg ha]
  exact ⟨Int.ediv_nonneg ha (by omega), Int.ediv_le_self _ ha⟩
theorem l1Next_ex {l : List Int} (hc : CodeOk l) {a n : Int} (ha : 0 ≤ a ∧ a ≤ 2147483648) (hn : n ≤ 2147483648) : ∃ v, spec_l1Next.f l a n = some (v, a + 1) ∧ 0 ≤ v ∧ (1 ≤ n → v < n) ∧ (n < 1 → v = 0) := by
  obtain ⟨hl, hb⟩ := hc
  obtain ⟨a0, a1⟩ := ha
  unfold spec_l1Next.f
  rw [w64 (x := a + 1) (by omega) (by omega), show a + 1 - 1 = a by omega, w64 (x := a) (by omega) (by omega), w64 (x := a + 1) (by omega) (by omega)]
  by_cases h1 : n < 1
  · exact ⟨0, if_pos h1, by omega, by omega, fun _ => rfl⟩
  rw [if_neg h1]
  by_cases h2 : (l.length : Int) = 0
  · rw [if_pos h2, if_neg (by omega), w64 (by omega) (by omega)]
    obtain ⟨b0, b1⟩ := tmod_in (a := a * 7) (n := n) (by omega) (by omega)
    exact ⟨_, rfl, b0, fun _ => b1, fun h => by omega⟩
  rw [if_neg h2]
  obtain ⟨c0, c1⟩ := tmod_in (a := a) (n := (l.length : Int)) (by omega) (by omega)
  obtain ⟨d0, d1⟩ := tmod_in (a := a + 1) (n := (l.length : Int)) (by omega) (by omega)
  obtain ⟨e0, e1⟩ := tdiv_in (a := a) (n := (l.length : Int)) (by omega) (by omega)
  obtain ⟨f0, f1⟩ := rd_byt hb (Int.tmod a (l.length : Int))
  obtain ⟨g0, g1⟩ := rd_byt hb (Int.tmod (a + 1) (l.length : Int))
  rw [if_pos c0, if_pos c1]
  generalize Int.tdiv a (l.length : Int) = q at *
  generalize rd l (Int.tmod a (l.length : Int)) = x at *
  generalize rd l (Int.tmod (a + 1) (l.length : Int)) = y at *
  have q1 : q ≤ 2147483648 := by omega
  rw [w64 (x := x) (by omega) (by omega), w64 (x := q) (by omega) (by omega), w64 (x := q * 37) (by omega) (by omega), w64 (x := x + q * 37) (by omega) (by omega)]
  by_cases h3 : n > 200
  · rw [if_pos h3, if_pos d0, if_pos d1, if_neg (by omega), w64 (x := y) (by omega) (by omega), w64 (x := (x + q * 37) * 251) (by omega) (by omega), w64 (x := y * 13) (by omega) (by omega), w64 (x := (x + q * 37) * 251 + y * 13) (by omega) (by omega), w64 (by omega) (by omega)]
    obtain ⟨b0, b1⟩ := tmod_in (a := (x + q * 37) * 251 + y * 13 + a) (n := n) (by omega) (by omega)
    exact ⟨_, rfl, b0, fun _ => b1, fun h => by omega⟩
  · rw [if_neg h3, if_neg (by omega)]
    obtain ⟨b0, b1⟩ := tmod_in (a := x + q * 37) (n := n) (by omega) (by omega)
    exact ⟨_, rfl, b0, fun _ => b1, fun h => by omega⟩
theorem l1Chance_ex {l : List Int} (hc : CodeOk l) {a n : Int} (ha : 0 ≤ a ∧ a ≤ 2147483648) (hn : n ≤ 2147483648) : ∃ b, spec_l1Chance.f l a n = some (b, a + 1) := by
  obtain ⟨v, e, _⟩ := l1Next_ex hc ha hn
  exact ⟨v == 0, by unfold spec_l1Chance.f; rw [e]; rfl⟩
theorem l1Pick_ex {l : List Int} (hc : CodeOk l) {a : Int} (ha : 0 ≤ a ∧ a ≤ 2147483648) (xs : List Int) (h0 : 1 ≤ xs.length) (h1 : xs.length ≤ 1000) : ∃ v, spec_l1Pick.f l a xs = some (v, a + 1) ∧ v ∈ xs := by
  obtain ⟨v, e, v0, v1, _⟩ := l1Next_ex hc ha (n := (xs.length : Int)) (by omega)
  have v1 := v1 (by omega)
  obtain ⟨m, rfl⟩ : ∃ m : Nat, v = m := ⟨v.toNat, by omega⟩
  have hm : m < xs.length := by omega
  refine ⟨xs[m], ?_, List.getElem_mem _⟩
  unfold spec_l1Pick.f
  rw [e]
  simp only [Option.bind_some]
  rw [if_pos v0, if_pos v1, rd_nat xs m hm]
def BytL (l : List Int) : Prop := ∀ x ∈ l, 0 ≤ x ∧ x ≤ 255
theorem BytL.nil : BytL [] := by intro x h; cases h
theorem BytL.cons {x : Int} {l : List Int} (h0 : 0 ≤ x) (h1 : x ≤ 255) (h : BytL l) : BytL (x :: l) := by
  intro y hy
  rcases List.mem_cons.mp hy with rfl | hy
  · exact ⟨h0, h1⟩
  · exact h y hy
theorem BytL.append {a b : List Int} (h : BytL a) (k : BytL b) : BytL (a ++ b) := by
  intro x hx
  rcases List.mem_append.mp hx with hx | hx
  · exact h x hx
  · exact k x hx
theorem mod256 (x : Int) : 0 ≤ x % 256 ∧ x % 256 ≤ 255 := ⟨Int.emod_nonneg _ (by decide), by have := Int.emod_lt_of_pos x (show (0 : Int) < 256 by decide); omega⟩
theorem l1Encode_ex (c : Int) : ∃ bs, spec_l1Encode.f c = some bs ∧ bs.length ≤ 3 ∧ BytL bs := by
  unfold spec_l1Encode.f
  split
  · exact ⟨_, rfl, by simp, BytL.cons (mod256 _).1 (mod256 _).2 BytL.nil⟩
  · split
    · exact ⟨_, rfl, by simp, BytL.cons (mod256 _).1 (mod256 _).2 (BytL.cons (mod256 _).1 (mod256 _).2 BytL.nil)⟩
    · exact ⟨_, rfl, by simp, BytL.cons (mod256 _).1 (mod256 _).2 (BytL.cons (mod256 _).1 (mod256 _).2 (BytL.cons (mod256 _).1 (mod256 _).2 BytL.nil))⟩
theorem l1Byte_ex {l : List Int} (hc : CodeOk l) {a : Int} (ha : 0 ≤ a ∧ a ≤ 2147483600) : ∃ bs a', spec_l1Byte.f l a = some (bs, a') ∧ a ≤ a' ∧ a' ≤ a + 3 ∧ bs.length ≤ 3 ∧ BytL bs := by
  obtain ⟨v, e, _⟩ := l1Next_ex hc (a := a) (n := 12) (by omega) (by omega)
  unfold spec_l1Byte.f
  rw [e]
  simp only [Option.bind_some]
  by_cases h0 : v = 0
  · rw [if_pos h0]
    exact ⟨_, _, rfl, by omega, by omega, by simp, BytL.cons (by decide) (by decide) BytL.nil⟩
  rw [if_neg h0]
  by_cases h1 : v = 1
  · obtain ⟨p, ep, _⟩ := l1Pick_ex hc (a := a + 1) (by omega) [1, 27, 127, 13] (by decide) (by decide)
    rw [if_pos h1, ep]
    exact ⟨_, _, rfl, by omega, by omega, by simp, BytL.cons (mod256 _).1 (mod256 _).2 BytL.nil⟩
  rw [if_neg h1]
  by_cases h2 : v = 2
  · obtain ⟨p, ep, _⟩ := l1Next_ex hc (a := a + 1) (n := 128) (by omega) (by omega)
    rw [if_pos h2, ep]
    exact ⟨_, _, rfl, by omega, by omega, by simp, BytL.cons (mod256 _).1 (mod256 _).2 BytL.nil⟩
  rw [if_neg h2]
  by_cases h3 : v = 3
  · obtain ⟨p, ep, _⟩ := l1Pick_ex hc (a := a + 1) (by omega) [228, 8364, 2047, 2048, 65535] (by decide) (by decide)
    obtain ⟨bs, eb, b1, b2⟩ := l1Encode_ex p
    rw [if_pos h3, ep]
    simp only [Option.bind_some]
    rw [eb]
    exact ⟨_, _, rfl, by omega, by omega, b1, b2⟩
  rw [if_neg h3]
  obtain ⟨p, ep, _⟩ := l1Next_ex hc (a := a + 1) (n := 4) (by omega) (by omega)
  rw [ep]
  simp only [Option.bind_some]
  obtain ⟨q, eq, _⟩ := l1Pick_ex hc (a := a + 1 + 1) (by omega) [97, 98, 99, 32, wrap64 (97 + p)] (by simp) (by simp)
  rw [eq]
  exact ⟨_, _, rfl, by omega, by omega, by simp, BytL.cons (mod256 _).1 (mod256 _).2 BytL.nil⟩
theorem l1Line_loop {l : List Int} (hc : CodeOk l) : ∀ (n : Nat) (out : List Int) (a : Int), out.length + 3 * n ≤ 1000000 → 0 ≤ a → a + 3 * n ≤ 2000000000 → BytL out →
    ∃ bs a', Ev (fun k => spec_l1Line.l0 k out (n : Int) l a) (bs, a') ∧ a ≤ a' ∧ a' ≤ a + 3 * n ∧ bs.length ≤ out.length + 3 * n ∧ BytL bs
  | 0, out, a, _, h0, h1, hb => ⟨out, a, Ev.succ (Ev.congr (fun k => by simp only [spec_l1Line.l0]; rw [if_neg (by omega)]) (Ev.now _)), by omega, by omega, by omega, hb⟩
  | n + 1, out, a, ho, h0, h1, hb => by
    obtain ⟨bs, a1, e, e0, e1, e2, e3⟩ := l1Byte_ex hc (a := a) (by omega)
    obtain ⟨cs, a2, f, f0, f1, f2, f3⟩ := l1Line_loop hc n (out ++ bs) a1 (by rw [List.length_append]; omega) (by omega) (by omega) (hb.append e3)
    rw [List.length_append] at f2
    refine ⟨cs, a2, Ev.succ (Ev.congr (fun k => ?_) f), by omega, by omega, by omega, f3⟩
    simp only [spec_l1Line.l0]
    rw [if_pos (by omega), e]
    simp only [Option.bind_some]
    rw [if_pos (by omega), w64 (by omega) (by omega), show ((n + 1 : Nat) : Int) - 1 = (n : Int) by omega]
theorem l1Line_ex {l : List Int} (hc : CodeOk l) {a : Int} (n : Nat) (ha : 0 ≤ a ∧ a ≤ 1900000000) (h1 : 1 ≤ n) (h2 : n ≤ 10000) : ∃ bs a', Ev (fun k => spec_l1Line.f k l a (n : Int)) (bs, a') ∧ a ≤ a' ∧ a' ≤ a + 1 + 3 * n ∧ bs.length ≤ 3 * n ∧ BytL bs := by
  obtain ⟨v, e, v0, v1, _⟩ := l1Next_ex hc (a := a) (n := (n : Int)) (by omega) (by omega)
  have v1 := v1 (by omega)
  obtain ⟨m, rfl⟩ : ∃ m : Nat, v = m := ⟨v.toNat, by omega⟩
  obtain ⟨bs, a', f, f0, f1, f2, f3⟩ := l1Line_loop hc m [] (a + 1) (by simp; omega) (by omega) (by omega) BytL.nil
  simp only [List.length_nil] at f2
  refine ⟨bs, a', ?_, by omega, by omega, by omega, f3⟩
  unfold spec_l1Line.f
  exact Ev.bind0 e f
end Go.Proofs.Ytjnmhpldabbeiaa.Q
end
section
namespace Go.Proofs.Ytjnmhpldabbeiaa.L
def sumL : List Int → Int
  | [] => 0
  | x :: xs => x + sumL xs
theorem sumL_append : ∀ (a b : List Int), sumL (a ++ b) = sumL a + sumL b
  | [], b => by simp [sumL]
  | x :: a, b => by simp only [List.cons_append, sumL, sumL_append a b]; omega
theorem sumL_nonneg : ∀ (a : List Int), (∀ x ∈ a, 1 ≤ x) → 0 ≤ sumL a
  | [], _ => by simp [sumL]
  | x :: a, h => by
    have := h x (by simp)
    have := sumL_nonneg a (fun y hy => h y (by simp [hy]))
    simp only [sumL]
    omega
theorem sumL_le (m : Int) : ∀ (a : List Int), (∀ x ∈ a, x ≤ m) → 0 ≤ m → sumL a ≤ m * a.length
  | [], _, _ => by simp [sumL]
  | x :: a, h, hm => by
    have := h x (by simp)
    have := sumL_le m a (fun y hy => h y (by simp [hy])) hm
    simp only [sumL, List.length_cons]
    rw [Int.natCast_add, Int.mul_add]
    simp
    omega
def posL (cs : List Int) (n : Nat) (R : Int) : Int := sumL (cs.take n) + R
/-- A spot that is right in lines of so many rows. -/
def OkS (cs : List Int) (n : Nat) (R : Int) : Prop := ∃ c, cs[n]? = some c ∧ 0 ≤ R ∧ R < c
def atL (cs : List Int) (n : Nat) : Int := cs[n]?.getD 1
def up1 (cs : List Int) (s : Nat × Int) : Nat × Int := if s.2 + 1 < atL cs s.1 then (s.1, s.2 + 1) else if s.1 + 1 < cs.length then (s.1 + 1, 0) else s
def dn1 (cs : List Int) (s : Nat × Int) : Nat × Int := if 0 < s.2 then (s.1, s.2 - 1) else if 0 < s.1 then (s.1 - 1, atL cs (s.1 - 1) - 1) else s
def upN (cs : List Int) : Nat → Nat × Int → Nat × Int
  | 0, s => s
  | k + 1, s => upN cs k (up1 cs s)
def dnN (cs : List Int) : Nat → Nat × Int → Nat × Int
  | 0, s => s
  | k + 1, s => dnN cs k (dn1 cs s)
def findS : List Int → Int → Nat → Option (Nat × Int)
  | [], _, _ => none
  | n :: ns, a, i => if a < n then some (i, a) else findS ns (a - n) (i + 1)
theorem findS_pos : ∀ (cs : List Int) (n : Nat) (R : Int) (i : Nat), (∀ x ∈ cs, 1 ≤ x) → OkS cs n R → findS cs (posL cs n R) i = some (i + n, R)
  | [], n, R, i, _, ⟨c, hc, _⟩ => by simp at hc
  | x :: cs, 0, R, i, _, ⟨c, hc, h0, h1⟩ => by
    simp at hc
    subst hc
    simp [findS, posL, sumL, h1]
  | x :: cs, n + 1, R, i, hx, ⟨c, hc, h0, h1⟩ => by
    have h := findS_pos cs n R (i + 1) (fun y hy => hx y (by simp [hy])) ⟨c, by simpa using hc, h0, h1⟩
    have hp : posL (x :: cs) (n + 1) R = x + posL cs n R := by simp only [posL, List.take_succ_cons, sumL]; omega
    have hn : 0 ≤ posL cs n R := by
      have := sumL_nonneg (cs.take n) (fun y hy => hx y (by simp [List.mem_of_mem_take hy]))
      unfold posL
      omega
    rw [hp, findS, if_neg (by omega), show x + posL cs n R - x = posL cs n R from by omega, h]
    simp
    omega
theorem take_sum {cs : List Int} {n : Nat} {c : Int} (h : cs[n]? = some c) : sumL (cs.take (n + 1)) = sumL (cs.take n) + c := by
  rw [List.take_add_one, h, sumL_append]
  simp [sumL]
theorem take_sum_le (cs : List Int) (h : ∀ x ∈ cs, 1 ≤ x) (n : Nat) : sumL (cs.take n) ≤ sumL cs := by
  have e : sumL cs = sumL (cs.take n) + sumL (cs.drop n) := by rw [← sumL_append, List.take_append_drop]
  have := sumL_nonneg (cs.drop n) (fun x hx => h x (List.mem_of_mem_drop hx))
  omega
theorem pos_bounds {cs : List Int} (h : ∀ x ∈ cs, 1 ≤ x) {n : Nat} {R : Int} (ho : OkS cs n R) : 0 ≤ posL cs n R ∧ posL cs n R < sumL cs := by
  obtain ⟨c, hc, h0, h1⟩ := ho
  have a := sumL_nonneg (cs.take n) (fun y hy => h y (List.mem_of_mem_take hy))
  have b := take_sum_le cs h (n + 1)
  rw [take_sum hc] at b
  unfold posL
  omega
theorem up1_ok {cs : List Int} (h : ∀ x ∈ cs, 1 ≤ x) {n : Nat} {R : Int} (ho : OkS cs n R) : OkS cs (up1 cs (n, R)).1 (up1 cs (n, R)).2 ∧ posL cs (up1 cs (n, R)).1 (up1 cs (n, R)).2 = min (posL cs n R + 1) (sumL cs - 1) := by
  obtain ⟨c, hc, h0, h1⟩ := id ho
  have hb := pos_bounds h ho
  have ha : atL cs n = c := by simp [atL, hc]
  unfold up1
  simp only [ha]
  by_cases h2 : R + 1 < c
  · have ho2 : OkS cs n (R + 1) := ⟨c, hc, by omega, h2⟩
    have := pos_bounds h ho2
    rw [if_pos h2]
    refine ⟨ho2, ?_⟩
    unfold posL at *
    dsimp only
    omega
  · rw [if_neg h2]
    by_cases h3 : n + 1 < cs.length
    · obtain ⟨d, hd⟩ : ∃ d, cs[n + 1]? = some d := ⟨_, List.getElem?_eq_getElem h3⟩
      have hd1 : 1 ≤ d := h d (List.mem_of_getElem? hd)
      have ho2 : OkS cs (n + 1) 0 := ⟨d, hd, by omega, by omega⟩
      have := pos_bounds h ho2
      rw [if_pos h3]
      refine ⟨ho2, ?_⟩
      unfold posL at *
      dsimp only
      rw [take_sum hc] at *
      omega
    · rw [if_neg h3]
      refine ⟨ho, ?_⟩
      have hl : n < cs.length := (List.getElem?_eq_some_iff.mp hc).1
      have e : sumL cs = sumL (cs.take (n + 1)) := by rw [List.take_of_length_le (by omega)]
      rw [take_sum hc] at e
      unfold posL at *
      dsimp only
      omega
theorem dn1_ok {cs : List Int} (h : ∀ x ∈ cs, 1 ≤ x) {n : Nat} {R : Int} (ho : OkS cs n R) : OkS cs (dn1 cs (n, R)).1 (dn1 cs (n, R)).2 ∧ posL cs (dn1 cs (n, R)).1 (dn1 cs (n, R)).2 = max (posL cs n R - 1) 0 := by
  obtain ⟨c, hc, h0, h1⟩ := id ho
  have hb := pos_bounds h ho
  unfold dn1
  dsimp only
  by_cases h2 : 0 < R
  · have ho2 : OkS cs n (R - 1) := ⟨c, hc, by omega, by omega⟩
    have := pos_bounds h ho2
    rw [if_pos h2]
    refine ⟨ho2, ?_⟩
    unfold posL at *
    dsimp only
    omega
  · rw [if_neg h2]
    by_cases h3 : 0 < n
    · obtain ⟨m, rfl⟩ : ∃ m, n = m + 1 := ⟨n - 1, by omega⟩
      have hl : m + 1 < cs.length := (List.getElem?_eq_some_iff.mp hc).1
      obtain ⟨d, hd⟩ : ∃ d, cs[m]? = some d := ⟨_, List.getElem?_eq_getElem (by omega)⟩
      have hd1 : 1 ≤ d := h d (List.mem_of_getElem? hd)
      have ho2 : OkS cs m (d - 1) := ⟨d, hd, by omega, by omega⟩
      have := pos_bounds h ho2
      rw [if_pos h3]
      simp only [Nat.add_sub_cancel, atL, hd, Option.getD_some]
      refine ⟨ho2, ?_⟩
      unfold posL at *
      rw [take_sum hd] at *
      omega
    · rw [if_neg h3]
      obtain rfl : n = 0 := by omega
      refine ⟨ho, ?_⟩
      unfold posL at *
      simp only [List.take_zero, sumL] at *
      omega
theorem upN_ok {cs : List Int} (h : ∀ x ∈ cs, 1 ≤ x) : ∀ (k : Nat) {n : Nat} {R : Int}, OkS cs n R → OkS cs (upN cs k (n, R)).1 (upN cs k (n, R)).2 ∧ posL cs (upN cs k (n, R)).1 (upN cs k (n, R)).2 = min (posL cs n R + k) (sumL cs - 1)
  | 0, n, R, ho => by
    have := pos_bounds h ho
    refine ⟨ho, ?_⟩
    simp only [upN]
    omega
  | k + 1, n, R, ho => by
    obtain ⟨h1, h2⟩ := up1_ok h ho
    obtain ⟨h3, h4⟩ := upN_ok h k h1
    have := pos_bounds h ho
    refine ⟨h3, ?_⟩
    simp only [upN]
    rw [h4, h2]
    omega
theorem dnN_ok {cs : List Int} (h : ∀ x ∈ cs, 1 ≤ x) : ∀ (k : Nat) {n : Nat} {R : Int}, OkS cs n R → OkS cs (dnN cs k (n, R)).1 (dnN cs k (n, R)).2 ∧ posL cs (dnN cs k (n, R)).1 (dnN cs k (n, R)).2 = max (posL cs n R - k) 0
  | 0, n, R, ho => by
    have := pos_bounds h ho
    refine ⟨ho, ?_⟩
    simp only [dnN]
    omega
  | k + 1, n, R, ho => by
    obtain ⟨h1, h2⟩ := dn1_ok h ho
    obtain ⟨h3, h4⟩ := dnN_ok h k h1
    have := pos_bounds h ho
    refine ⟨h3, ?_⟩
    simp only [dnN]
    rw [h4, h2]
    omega
/-- So many rows on (or back). -/
def moveS (cs : List Int) (s : Nat × Int) (by_ : Int) : Nat × Int := if 0 ≤ by_ then upN cs by_.toNat s else dnN cs (-by_).toNat s
theorem moveS_find {cs : List Int} (h : ∀ x ∈ cs, 1 ≤ x) {n : Nat} {R : Int} (ho : OkS cs n R) (b : Int) : findS cs (max 0 (min (posL cs n R + b) (sumL cs - 1))) 0 = some (moveS cs (n, R) b) := by
  have hb := pos_bounds h ho
  unfold moveS
  by_cases h0 : 0 ≤ b
  · obtain ⟨h1, h2⟩ := upN_ok h b.toNat ho
    rw [if_pos h0, show max 0 (min (posL cs n R + b) (sumL cs - 1)) = min (posL cs n R + (b.toNat : Int)) (sumL cs - 1) by omega, ← h2, findS_pos cs _ _ 0 h h1]
    simp
  · obtain ⟨h1, h2⟩ := dnN_ok h (-b).toNat ho
    rw [if_neg h0, show max 0 (min (posL cs n R + b) (sumL cs - 1)) = max (posL cs n R - ((-b).toNat : Int)) 0 by omega, ← h2, findS_pos cs _ _ 0 h h1]
    simp
end Go.Proofs.Ytjnmhpldabbeiaa.L
end
section
namespace Go.Proofs.Ytjnmhpldabbeiaa.Q
open Go.RowKit Go.Proofs.YtjnmhpldabbeiaaW.PrintWords Go.Proofs.YtjnmhpldabbeiaaW.PrintLast Go.Proofs.YtjnmhpldabbeiaaW.PrintMore Go.Proofs.Ytjnmhpldabbeiaa.L
/-- Lines of so many rows, as a file has them. -/
structure CntOk (cs : List Int) : Prop where
  len : cs.length ≤ 1048577
  pos : ∀ x ∈ cs, 1 ≤ x
  top : ∀ x ∈ cs, x ≤ 1073741824
theorem sum_bd {cs : List Int} (h : CntOk cs) (i : Nat) : 0 ≤ sumL (cs.take i) ∧ sumL (cs.take i) ≤ 1125900980584448 := by
  have a := sumL_nonneg (cs.take i) (fun x hx => h.pos x (List.mem_of_mem_take hx))
  have b := sumL_le 1073741824 (cs.take i) (fun x hx => h.top x (List.mem_of_mem_take hx)) (by omega)
  have c : (cs.take i).length ≤ 1048577 := by rw [List.length_take]; have := h.len; omega
  omega
theorem sum_all {cs : List Int} (h : CntOk cs) : 0 ≤ sumL cs ∧ sumL cs ≤ 1125900980584448 := by
  have := sum_bd h cs.length
  rwa [List.take_length] at this
theorem moved_l0 {cs : List Int} (h : CntOk cs) (L : Nat) (R A : Int) (hA : -1099511627776 ≤ A ∧ A ≤ 1099511627776) (r : Int × Int)
    (fin : Ev (fun k => impl_moved.l1 k (mx 0 (mn (A + sumL (cs.take (min cs.length L))) (wrap64 (sumL cs - 1)))) cs (cs.length : Int) 0 (L : Int) R) r) : ∀ (d i : Nat), cs.length - i = d → i ≤ cs.length →
    Ev (fun k => impl_moved.l0 k cs (A + sumL (cs.take (min i L))) (sumL (cs.take i)) cs (cs.length : Int) (i : Int) (L : Int) R) r
  | 0, i, hd, hi => by
    obtain rfl : i = cs.length := by omega
    refine Ev.succ ?_
    simp only [impl_moved.l0, List.take_length]
    exact Ev.neg (by omega) fin
  | d + 1, i, hd, hi => by
    have hlt : i < cs.length := by omega
    have ih := moved_l0 h L R A hA r fin d (i + 1) (by omega) (by omega)
    have hg : cs[i]? = some cs[i] := List.getElem?_eq_getElem hlt
    have hl := h.len
    have b1 := h.pos _ (List.getElem_mem hlt)
    have b2 := h.top _ (List.getElem_mem hlt)
    have s1 := sum_bd h i
    have s2 := sum_bd h (min i L)
    rw [take_sum hg] at ih
    refine Ev.succ ?_
    simp only [impl_moved.l0, rd_nat cs i hlt]
    refine Ev.pos (by omega) (Ev.pos (by omega) (Ev.pos (by omega) ?_))
    rw [w64 (x := sumL (cs.take i) + cs[i]) (by omega) (by omega), w64 (x := (i : Int) + 1) (by omega) (by omega)]
    by_cases hL : i < L
    · refine Ev.pos (by omega) ?_
      rw [show min (i + 1) L = i + 1 by omega, take_sum hg] at ih
      rw [show min i L = i by omega, w64 (by omega) (by omega), Int.add_assoc]
      exact ih
    · refine Ev.neg (by omega) ?_
      rw [show min (i + 1) L = min i L by omega] at ih
      exact ih
theorem moved_l1 {cs : List Int} (h : CntOk cs) (L R : Int) (r : Nat × Int) : ∀ (d i : Nat) (a : Int), cs.length - i = d → i ≤ cs.length → 0 ≤ a → a ≤ 1125900980584448 → findS (cs.drop i) a i = some r →
    Ev (fun k => impl_moved.l1 k a cs (cs.length : Int) (i : Int) L R) ((r.1 : Int), r.2)
  | 0, i, a, hd, hi, _, _, hf => by
    obtain rfl : i = cs.length := by omega
    rw [List.drop_length, findS] at hf
    cases hf
  | d + 1, i, a, hd, hi, h0, h1, hf => by
    have hlt : i < cs.length := by omega
    have hl := h.len
    have b1 := h.pos _ (List.getElem_mem hlt)
    have b2 := h.top _ (List.getElem_mem hlt)
    rw [List.drop_eq_getElem_cons hlt, findS] at hf
    refine Ev.succ ?_
    simp only [impl_moved.l1, rd_nat cs i hlt]
    refine Ev.pos (by omega) (Ev.pos (by omega) (Ev.pos (by omega) ?_))
    by_cases ha : a < cs[i]
    · rw [if_pos ha] at hf
      obtain rfl := Option.some.inj hf
      exact Ev.pos ha (Ev.now _)
    · rw [if_neg ha] at hf
      refine Ev.neg ha ?_
      rw [w64 (x := a - cs[i]) (by omega) (by omega), w64 (x := (i : Int) + 1) (by omega) (by omega)]
      exact moved_l1 h L R r d (i + 1) (a - cs[i]) (by omega) (by omega) (by omega) (by omega) hf
theorem moved_ev {cs : List Int} (h : CntOk cs) {n : Nat} {R : Int} (ho : OkS cs n R) (b : Int) (hb : -1073741824 ≤ b ∧ b ≤ 1073741824) : Ev (fun k => impl_moved.f k cs (n : Int) R b) (((moveS cs (n, R) b).1 : Int), (moveS cs (n, R) b).2) := by
  obtain ⟨c, hc, h0, h1⟩ := id ho
  have hn : n < cs.length := (List.getElem?_eq_some_iff.mp hc).1
  have ht := h.top c (List.mem_of_getElem? hc)
  have hs := sum_all h
  have hpb := pos_bounds h.pos ho
  have hf := moveS_find h.pos ho b
  unfold impl_moved.f
  refine Ev.neg (by omega) ?_
  rw [w64 (x := R + b) (by omega) (by omega)]
  have fin : Ev (fun k => impl_moved.l1 k (mx 0 (mn (R + b + sumL (cs.take (min cs.length n))) (wrap64 (sumL cs - 1)))) cs (cs.length : Int) 0 (n : Int) R) (((moveS cs (n, R) b).1 : Int), (moveS cs (n, R) b).2) := by
    have e : mx 0 (mn (R + b + sumL (cs.take (min cs.length n))) (wrap64 (sumL cs - 1))) = max 0 (min (posL cs n R + b) (sumL cs - 1)) := by
      rw [w64 (x := sumL cs - 1) (by omega) (by omega), show min cs.length n = n by omega]
      unfold posL mx mn
      repeat' split
      all_goals omega
    rw [e]
    exact moved_l1 h (n : Int) R (moveS cs (n, R) b) cs.length 0 _ (by omega) (by omega) (by omega) (by omega) (by rw [List.drop_zero]; exact hf)
  have := moved_l0 h n R (R + b) (by omega) _ fin cs.length 0 (by omega) (by omega)
  simpa [sumL] using this
theorem l10At_eq {cs : List Int} {n : Nat} (hn : n < cs.length) : spec_l10At.f cs (n : Int) = some (atL cs n) := by
  unfold spec_l10At.f atL
  rw [if_neg (by omega), if_pos (by omega), if_pos (by omega), rd_nat cs n hn, List.getElem?_eq_getElem hn]
  rfl
theorem move_up {cs : List Int} (h : CntOk cs) : ∀ (m : Nat) {n : Nat} {R : Int}, m ≤ 1000000 → OkS cs n R → Ev (fun k => spec_l10Move.l0 k cs (m : Int) (n : Int) R) (((upN cs m (n, R)).1 : Int), (upN cs m (n, R)).2)
  | 0, n, R, _, ho => by
    refine Ev.succ ?_
    simp only [spec_l10Move.l0]
    refine Ev.neg (by omega) (Ev.succ ?_)
    simp only [spec_l10Move.l1]
    exact Ev.neg (by omega) (Ev.now _)
  | m + 1, n, R, hm, ho => by
    obtain ⟨c, hc, h0, h1⟩ := id ho
    have hn : n < cs.length := (List.getElem?_eq_some_iff.mp hc).1
    have ht := h.top c (List.mem_of_getElem? hc)
    have hl := h.len
    have hu := (up1_ok h.pos ho).1
    have ih := move_up h m (by omega) hu
    refine Ev.succ ?_
    simp only [spec_l10Move.l0]
    refine Ev.pos (by omega) (Ev.bind0 (l10At_eq hn) ?_)
    rw [w64 (x := R + 1) (by omega) (by omega), w64 (x := ((m + 1 : Nat) : Int) - 1) (by omega) (by omega), w64 (x := (n : Int) + 1) (by omega) (by omega), show ((m + 1 : Nat) : Int) - 1 = (m : Int) by omega]
    rw [upN]
    unfold up1 at ih ⊢
    dsimp only at ih ⊢
    by_cases h2 : R + 1 < atL cs n
    · rw [if_pos h2] at ih ⊢
      exact Ev.pos h2 ih
    · rw [if_neg h2] at ih ⊢
      refine Ev.neg h2 ?_
      by_cases h3 : n + 1 < cs.length
      · rw [if_pos h3] at ih ⊢
        exact Ev.pos (by omega) ih
      · rw [if_neg h3] at ih ⊢
        exact Ev.neg (by omega) ih
theorem move_dn {cs : List Int} (h : CntOk cs) : ∀ (m : Nat) {n : Nat} {R : Int}, m ≤ 1000000 → OkS cs n R → Ev (fun k => spec_l10Move.l1 k cs (-(m : Int)) (n : Int) R) (((dnN cs m (n, R)).1 : Int), (dnN cs m (n, R)).2)
  | 0, n, R, _, ho => by
    refine Ev.succ ?_
    simp only [spec_l10Move.l1]
    exact Ev.neg (by omega) (Ev.now _)
  | m + 1, n, R, hm, ho => by
    obtain ⟨c, hc, h0, h1⟩ := id ho
    have hn : n < cs.length := (List.getElem?_eq_some_iff.mp hc).1
    have ht := h.top c (List.mem_of_getElem? hc)
    have hl := h.len
    have hu := (dn1_ok h.pos ho).1
    have ih := move_dn h m (by omega) hu
    refine Ev.succ ?_
    simp only [spec_l10Move.l1]
    refine Ev.pos (by omega) ?_
    rw [w64 (x := -((m + 1 : Nat) : Int) + 1) (by omega) (by omega), w64 (x := R - 1) (by omega) (by omega), w64 (x := (n : Int) - 1) (by omega) (by omega), show -((m + 1 : Nat) : Int) + 1 = -(m : Int) by omega]
    rw [dnN]
    unfold dn1 at ih ⊢
    dsimp only at ih ⊢
    by_cases h2 : 0 < R
    · rw [if_pos h2] at ih ⊢
      exact Ev.pos h2 ih
    · rw [if_neg h2] at ih ⊢
      refine Ev.neg h2 ?_
      by_cases h3 : 0 < n
      · rw [if_pos h3] at ih ⊢
        have e : (n : Int) - 1 = ((n - 1 : Nat) : Int) := by omega
        have hr : rd cs ((n : Int) - 1) = atL cs (n - 1) := by rw [e, rd_nat cs (n - 1) (by omega), atL, List.getElem?_eq_getElem (by omega : n - 1 < cs.length)]; rfl
        have hg := h.pos _ (List.getElem_mem (show n - 1 < cs.length by omega))
        have hg2 := h.top _ (List.getElem_mem (show n - 1 < cs.length by omega))
        have ha : atL cs (n - 1) = cs[n - 1]'(by omega) := by rw [atL, List.getElem?_eq_getElem (by omega : n - 1 < cs.length)]; rfl
        refine Ev.pos (by omega) (Ev.pos (by omega) (Ev.pos (by omega) ?_))
        rw [hr, w64 (x := atL cs (n - 1) - 1) (by omega) (by omega), e]
        exact ih
      · rw [if_neg h3] at ih ⊢
        exact Ev.neg (by omega) ih
theorem move_ev {cs : List Int} (h : CntOk cs) {n : Nat} {R : Int} (ho : OkS cs n R) (b : Int) (hb : -1000000 ≤ b ∧ b ≤ 1000000) : Ev (fun k => spec_l10Move.f k cs (n : Int) R b) (((moveS cs (n, R) b).1 : Int), (moveS cs (n, R) b).2) := by
  unfold spec_l10Move.f moveS
  by_cases h0 : 0 ≤ b
  · rw [if_pos h0]
    obtain ⟨m, rfl⟩ : ∃ m : Nat, b = m := ⟨b.toNat, by omega⟩
    rw [Int.toNat_natCast]
    exact move_up h m (by omega) ho
  · rw [if_neg h0]
    obtain ⟨m, rfl⟩ : ∃ m : Nat, b = -(m : Int) := ⟨(-b).toNat, by omega⟩
    rw [Int.neg_neg, Int.toNat_natCast]
    refine Ev.succ ?_
    simp only [spec_l10Move.l0]
    exact Ev.neg (by omega) (move_dn h m (by omega) ho)
end Go.Proofs.Ytjnmhpldabbeiaa.Q
end
section
namespace Go.Proofs.Ytjnmhpldabbeiaa.M
open Go.RowKit
open Go.Proofs.YtjnmhpldabbeiaaW.PrintWords
section
variable {α β : Type} {d : Kd α} {enc : β → List Value} {f : α → β} {k : Nat} {w : World} {A : Option Addr} {n : Nat} {xs : List α}
theorem row_of_C (hk : d.sz = k) (hK : ∀ {w : World} {x cs}, d.K w x cs → cs = enc (f x)) (h : Kd.C d w A n xs) : Row enc k w A (xs.map f) := fun i y hy => by
  rw [List.getElem?_map] at hy
  cases hx : xs[i]? with
  | none => rw [hx] at hy; cases hy
  | some x =>
    rw [hx] at hy
    obtain rfl : f x = y := by simpa using hy
    have hi : i < xs.length := (List.getElem?_eq_some_iff.1 hx).1
    obtain ⟨ad, e, hc⟩ := h.2.2 (by rw [← h.1]; omega)
    obtain ⟨c, hcl, hR, hcell⟩ := hc i x hx
    refine ⟨ad, e, At.of_add fun j v hv => ?_⟩
    rw [hK hR] at hcell
    rw [add_add, ← hk]
    exact hcell j v hv
theorem C_of_row (hk : d.sz = k) (hK : ∀ (w : World) (x : α), d.K w x (enc (f x))) (hl : ∀ y, (enc y).length = k) (hm : xs.length ≤ 9223372036854775807) (h : Row enc k w A (xs.map f)) : Kd.C d w A xs.length xs := by
  refine ⟨rfl, hm, fun hn => ?_⟩
  obtain ⟨x0, hx0⟩ := get_lt hn
  obtain ⟨ad, e, _⟩ := h 0 (f x0) (by simp [hx0])
  refine ⟨ad, e, fun j p hj => ⟨enc (f p), by rw [hl, hk], hK w p, fun i u hu => ?_⟩⟩
  obtain ⟨ad', e', ha⟩ := h j (f p) (by simp [hj])
  obtain rfl : ad = ad' := by rw [e] at e'; exact Option.some.inj e'
  rw [hk, ← add_add]
  exact ha.add i u hu
theorem R_of_own {e : TypeId} {base : Nat} {v : Value} (hk : d.sz = k) (hM : ∀ (w : World) (b : Nat) (ok : Nat → Prop) (x : α), d.M w b ok x (enc (f x))) (hl : ∀ y, (enc y).length = k) (h : Own enc k e w base v (xs.map f)) : Kd.R d e w base (fun _ => True) v xs := by
  obtain ⟨cells, hE, ho⟩ := h
  rw [List.length_map] at ho
  refine ⟨fun _ _ => trivial, cells, by rw [hk]; exact ho, by rw [hE.1, List.length_map, hk], fun j p hj => ?_⟩
  have e : (cells.drop (j * d.sz)).take d.sz = enc (f p) := by
    have hjl : j < xs.length := (List.getElem?_eq_some_iff.1 hj).1
    have h1 : j * k + k ≤ cells.length := by rw [hE.1, List.length_map, ← Nat.succ_mul]; exact Nat.mul_le_mul_right _ hjl
    apply List.ext_getElem?
    intro i
    rw [hk]
    by_cases hi : i < k
    · rw [List.getElem?_take_of_lt hi, List.getElem?_drop]
      exact (hE.2 j (f p) (by simp [hj]) i _ (List.getElem?_eq_getElem (by rw [hl]; exact hi))).trans (List.getElem?_eq_getElem (by rw [hl]; exact hi)).symm
    · rw [List.getElem?_eq_none (by rw [List.length_take]; omega), List.getElem?_eq_none (by rw [hl]; omega)]
  rw [e]
  exact hM _ _ _ p
theorem own_of_R {e : TypeId} {base : Nat} {ok : Nat → Prop} {v : Value} (hk : d.sz = k) (hM : ∀ {w : World} {b : Nat} {ok : Nat → Prop} {x cs}, d.M w b ok x cs → cs = enc (f x)) (hl : ∀ y, (enc y).length = k) (h : Kd.R d e w base ok v xs) : Own enc k e w base v (xs.map f) := by
  obtain ⟨_, cells, ho, hR⟩ := h
  rw [hk] at ho
  refine ⟨cells, ⟨by rw [hR.1, List.length_map, hk], fun i y hy j u hu => ?_⟩, by rw [List.length_map]; exact ho⟩
  rw [List.getElem?_map] at hy
  cases hx : xs[i]? with
  | none => rw [hx] at hy; cases hy
  | some x =>
    rw [hx] at hy
    obtain rfl : f x = y := by simpa using hy
    have e := hM (hR.2 i x hx)
    have hj : j < k := by rw [← hl (f x)]; exact (List.getElem?_eq_some_iff.1 hu).1
    rw [hk] at e
    rw [← e, List.getElem?_take_of_lt hj, List.getElem?_drop] at hu
    exact hu
end
theorem row_ints {k : IntKind} {w : World} {A : Option Addr} {n : Nat} {xs : List Int} (h : Kd.C (Kd.int k) w A n xs) : Row (fun x => [Value.int k x]) 1 w A xs := by
  have := row_of_C (d := Kd.int k) (enc := fun x : Int => [Value.int k x]) (f := id) (k := 1) rfl (fun h => h) h
  simpa using this
theorem C_ints {k : IntKind} {w : World} {A : Option Addr} {xs : List Int} (hm : xs.length ≤ 9223372036854775807) (h : Row (fun x => [Value.int k x]) 1 w A xs) : Kd.C (Kd.int k) w A xs.length xs :=
  C_of_row (d := Kd.int k) (enc := fun x : Int => [Value.int k x]) (f := id) (k := 1) rfl (fun _ _ => rfl) (fun _ => rfl) hm (by simpa using h)
theorem R_ints {k : IntKind} {w : World} {e : TypeId} {base : Nat} {v : Value} {xs : List Int} (h : Own (fun x => [Value.int k x]) 1 e w base v xs) : Kd.R (Kd.int k) e w base (fun _ => True) v xs :=
  R_of_own (d := Kd.int k) (enc := fun x : Int => [Value.int k x]) (f := id) (k := 1) rfl (fun _ _ _ _ => rfl) (fun _ => rfl) (by simpa using h)
end Go.Proofs.Ytjnmhpldabbeiaa.M
end
section
namespace Go.Proofs.Ytjnmhpldabbeiaa.M
open Go.RowKit
def eU (x : Int) : List Value := [.int .u8 x]
theorem eU_len (x : Int) : (eU x).length = 1 := rfl
def mkeU (k : Int) : Int := k % 256
theorem Row.eU {w : World} {A : Option Addr} {xs : List Int} (h : Row eU 1 w A xs) {i : Nat} {x : Int} (hx : xs[i]? = some x) : ∃ ad, A = some ad ∧ w.cell? (ad.add i) = some (.int .u8 x) := Row.one (f := fun x => .int .u8 x) h hx
end Go.Proofs.Ytjnmhpldabbeiaa.M
end
section
namespace Go.Proofs.Ytjnmhpldabbeiaa.M
open Go.RowKit Go.Proofs.Ytjnmhpldabbeiaa.Q Go.Proofs.YtjnmhpldabbeiaaW.PrintWords Go.Proofs.YtjnmhpldabbeiaaW.PrintLast Go.Proofs.YtjnmhpldabbeiaaW.PrintMore
/-- The lines of what is left of a file: its place, where the line began. -/
def lin : List Int → Nat → Nat → List S222
  | [], i, from_ => if from_ < i then [⟨(from_ : Int), (i : Int) - (from_ : Int)⟩] else []
  | x :: xs, i, from_ => if x = 10 then ⟨(from_ : Int), (i : Int) - (from_ : Int)⟩ :: lin xs (i + 1) (i + 1) else lin xs (i + 1) from_
def linL (l : List Int) : List S222 := lin l 0 0
theorem lin_len : ∀ (l : List Int) (i f : Nat), (lin l i f).length ≤ l.length + 1
  | [], i, f => by unfold lin; split <;> simp
  | x :: xs, i, f => by
    unfold lin
    split
    · have := lin_len xs (i + 1) (i + 1)
      simp only [List.length_cons]
      omega
    · have := lin_len xs (i + 1) f
      simp only [List.length_cons]
      omega
theorem lin_in : ∀ (l : List Int) (i f : Nat), f ≤ i → ∀ s ∈ lin l i f, ∃ a b : Nat, s = ⟨(a : Int), (b : Int)⟩ ∧ a + b ≤ i + l.length
  | [], i, f, h, s, hs => by
    unfold lin at hs
    split at hs
    · obtain rfl := List.mem_singleton.mp hs
      exact ⟨f, i - f, by rw [Int.ofNat_sub h], by simp; omega⟩
    · cases hs
  | x :: xs, i, f, h, s, hs => by
    unfold lin at hs
    split at hs
    · rcases List.mem_cons.mp hs with rfl | hs
      · exact ⟨f, i - f, by rw [Int.ofNat_sub h], by simp; omega⟩
      · obtain ⟨a, b, e, hb⟩ := lin_in xs (i + 1) (i + 1) (Nat.le_refl _) s hs
        exact ⟨a, b, e, by simp only [List.length_cons]; omega⟩
    · obtain ⟨a, b, e, hb⟩ := lin_in xs (i + 1) f (by omega) s hs
      exact ⟨a, b, e, by simp only [List.length_cons]; omega⟩
theorem linL_in {l : List Int} {s : S222} (h : s ∈ linL l) : ∃ a b : Nat, s = ⟨(a : Int), (b : Int)⟩ ∧ a + b ≤ l.length := by
  obtain ⟨a, b, e, hb⟩ := lin_in l 0 0 (Nat.le_refl _) s h
  exact ⟨a, b, e, by omega⟩
theorem linL_len (l : List Int) : (linL l).length ≤ l.length + 1 := lin_len l 0 0
def eLn (s : S222) : List Value := [.int .i64 s.f0, .int .i64 s.f1]
theorem eLn_len (s : S222) : (eLn s).length = 2 := rfl
theorem eLn_one (s : S222) : ∀ u ∈ eLn s, u.oneCell' = true := by simp [eLn, Value.oneCell']
theorem info_line : (Try.prog.info? 222).map (fun i => (i.zero, i.size, i.bytes)) = some (some (.agg #[.int .i64 0, .int .i64 0]), 2, 16) := by kernel_rfl
set_option maxHeartbeats 2000000 in
theorem l2Lines_c (g : Nat) (A : Option Addr) (n c : Nat) (l : List Int) (w : World) (hp : w.cell? ⟨g, 0, none⟩ = some (.slice A n c)) (hn : l.length = n) (hx : Row eU 1 w A l) (hm : n ≤ 1048576)
    (R : Ending → World → Prop) (h : ∀ A' c' w', Own eLn 2 222 w' w.heap.size (.slice A' (linL l).length c') (linL l) → (linL l).length ≤ c' → c' ≤ maxLen → Below w.heap.size w w' → R (.returned (.slice A' (linL l).length c')) w') :
    Calls Try.prog 169 #[.pointer (some ⟨g, 0, none⟩)] w R := by
  have H := Lib.hid h
  have HX := Lib.hid hx
  have HN := Lib.hid hn
  have HP := Lib.hid hp
  clear h hx hn
  (change Calls _ _ _ _ (Fin R); go_enter Try.func169, Try.ntmps169)
  go_wp2_with (fail)
  go_loopg [3, 4, 5] n (fun gk v1 v2 v3 wr => ∃ (i f m d : Nat) (B : Option Addr) (out : List S222), gk = n - i ∧ i ≤ n ∧ v1 = .slice B m d ∧ v2 = .int .i64 f ∧ v3 = .int .i64 i ∧ out.length = m ∧ m ≤ i ∧ f ≤ i ∧ m ≤ d ∧ d ≤ maxLen ∧ Own eLn 2 222 wr w.heap.size (.slice B m d) out ∧ Hid (linL l = out ++ lin (l.drop i) i f) ∧ Below w.heap.size w wr)
  case atStart => exact ⟨0, 0, 0, 0, some ⟨w.heap.size, 0, none⟩, [], by omega, by omega, rfl, rfl, rfl, rfl, by omega, by omega, Nat.le_refl _, by unfold maxLen; omega, Own.lit w _ [] 0 (Nat.le_refl _) rfl (by unfold maxLen; omega) ⟨rfl, fun i x hx => by simp at hx⟩, rfl, by (repeat' (first | (with_reducible exact Below.refl _ _) | (with_reducible assumption) | (with_reducible refine Below.alloc ?_ ?_ _) | (with_reducible refine bdN ?_ _) | (with_reducible refine Below.drew ?_) | (with_reducible refine Below.setCell ?_ ?_ _) | go_size))⟩
  case round =>
    obtain ⟨i, f, m, d, B, out, rfl, hi, rfl, rfl, rfl, hlen, hmi, hfi, hd1, hd2, ho, HE, hG⟩ := hrel
    have HO := Lib.hid ho
    have HLen := Lib.hid hlen
    have hp1 := cell_below hG HP.out
    clear ho hlen hp
    by_cases hlt : i < n
    · obtain ⟨b, hb⟩ := get_lt (xs := l) (i := i) (by rw [HN.out]; exact hlt)
      obtain ⟨ad, rfl, a0⟩ := HX.out.eU hb
      replace a0 := cell_below hG a0
      have HB := Lib.hid hb
      have HD := Lib.hid (drop_cons hb)
      clear hb
      by_cases h10 : b = 10
      · subst h10
        have w1 : wrap64 ((i : Int) - (f : Int)) = (i : Int) - (f : Int) := by unfold wrap64; omega
        have hbd : (out.length + 1) * 16 ≤ 140737488355328 := by rw [HLen.out]; omega
        have hbd2 : out.length + 1 ≤ maxLen := by rw [HLen.out]; unfold maxLen; omega
        have HBD := Lib.hid hbd
        have HBD2 := Lib.hid hbd2
        clear hbd hbd2
        go_wp2_with (first | (at_builtin; refine wp_append1 eLn 2 _ w.heap.size rfl _ _ 217 222 222 rfl Try.underlying217 (.agg #[.int .i64 0, .int .i64 0]) 16 info_line ⟨0, 0⟩ rfl eLn_len (by decide) eLn_one _ out rfl HO.out ⟨(f : Int), (i : Int) - (f : Int)⟩ _ rfl rfl HBD.out HBD2.out hG.size ?_; intro v' w' ho' hg'))
        go_roundg (n - (i + 1))
        case measure => omega
        case rel =>
          obtain ⟨B', d', rfl, h1, h2, _⟩ := ho'.row
          have hll : (out ++ [(⟨(f : Int), (i : Int) - (f : Int)⟩ : S222)]).length = m + 1 := by rw [List.length_append, HLen.out]; rfl
          rw [hll] at h1 ho' ⊢
          refine ⟨i + 1, i + 1, m + 1, d', B', _, rfl, by omega, rfl, by go_num, by go_num, hll, by omega, by omega, h1, h2, ho', ?_, below_own hG hg' (fun g e => (HO.out.lt e).1) hG.size⟩
          simp only [Hid]
          rw [HE.out, HD.out, lin, if_pos rfl, List.append_assoc]
          rfl
      · have hb10 : (b == 10) = false := by simpa using h10
        go_wp2_with (fail)
        go_roundg (n - (i + 1))
        case measure => omega
        case rel =>
          refine ⟨i + 1, f, m, d, B, out, rfl, by omega, rfl, by go_num, by go_num, HLen.out, by omega, by omega, hd1, hd2, HO.out, ?_, hG⟩
          simp only [Hid]
          rw [HE.out, HD.out, lin, if_neg h10]
    · obtain rfl : i = n := by omega
      have HE2 := HE.out
      rw [← HN.out, List.drop_length, HN.out, lin] at HE2
      by_cases hfn : f < i
      · rw [if_pos hfn] at HE2
        have w1 : wrap64 ((i : Int) - (f : Int)) = (i : Int) - (f : Int) := by unfold wrap64; omega
        have hbd : (out.length + 1) * 16 ≤ 140737488355328 := by rw [HLen.out]; omega
        have hbd2 : out.length + 1 ≤ maxLen := by rw [HLen.out]; unfold maxLen; omega
        have HBD := Lib.hid hbd
        have HBD2 := Lib.hid hbd2
        have HE3 := Lib.hid HE2
        clear hbd hbd2 HE2
        go_wp2_with (first | (at_builtin; refine wp_append1 eLn 2 _ w.heap.size rfl _ _ 217 222 222 rfl Try.underlying217 (.agg #[.int .i64 0, .int .i64 0]) 16 info_line ⟨0, 0⟩ rfl eLn_len (by decide) eLn_one _ out rfl HO.out ⟨(f : Int), (i : Int) - (f : Int)⟩ _ rfl rfl HBD.out HBD2.out hG.size ?_; intro v' w' ho' hg'))
        obtain ⟨B', d', rfl, h1, h2, _⟩ := ho'.row
        rw [← HE3.out] at h1 ho' ⊢
        go_ret
        exact H.out B' d' _ ho' h1 h2 (below_own hG hg' (fun g e => (HO.out.lt e).1) hG.size)
      · rw [if_neg hfn, List.append_nil] at HE2
        have HE3 := Lib.hid HE2
        clear HE2
        go_wp2_with (fail)
        go_ret
        have := H.out B d _ (by rw [HE3.out, HLen.out]; exact HO.out) (by rw [HE3.out, HLen.out]; exact hd1) hd2 hG
        rw [HE3.out, HLen.out] at this
        exact this
end Go.Proofs.Ytjnmhpldabbeiaa.M
end
section
namespace Go.Proofs.Ytjnmhpldabbeiaa.M
open Go.RowKit
/-- A piece of a row, as the program cuts it: at its address and with its capacity. -/
theorem Row.mid {α : Type} {enc : α → List Value} {k : Nat} {w : World} {A : Option Addr} {xs : List α} {c lo hi : Nat} (h : Row enc k w A xs) (h1 : lo ≤ hi) (h2 : hi ≤ xs.length) (hc : xs.length ≤ c) : Row enc k w (if c = lo then A else A.map (·.add (lo * k))) ((xs.take hi).drop lo) := fun i x hx => by
  rw [List.getElem?_drop, List.getElem?_take] at hx
  split at hx
  · rename_i hlt
    obtain ⟨ad, rfl, ha⟩ := h (lo + i) x hx
    rw [if_neg (by omega)]
    refine ⟨ad.add (lo * k), rfl, ?_⟩
    rw [add_add, ← Nat.add_mul]
    exact ha
  · cases hx
end Go.Proofs.Ytjnmhpldabbeiaa.M
end
section
namespace Go.Proofs.Ytjnmhpldabbeiaa.M
open Go.RowKit Go.Proofs.Ytjnmhpldabbeiaa.Q Go.Proofs.YtjnmhpldabbeiaaW.PrintWords Go.Proofs.YtjnmhpldabbeiaaW.PrintLast Go.Proofs.YtjnmhpldabbeiaaW.PrintMore
theorem info_u8e : Try.prog.info? 5 = some ((Try.prog.info? 5).get (by kernel_rfl)) := by kernel_rfl
/-- The bytes of a line. -/
def subL (l : List Int) (a b : Nat) : List Int := (l.take (a + b)).drop a
theorem subL_len {l : List Int} {a b : Nat} (h : a + b ≤ l.length) : (subL l a b).length = b := by
  rw [subL, List.length_drop, List.length_take]
  omega
theorem own_u8 {w : World} {e : TypeId} {base : Nat} {v : Value} {xs : List Int} (h : Kd.R (Kd.int .u8) e w base (fun _ => True) v xs) : Own eU 1 e w base v xs := by
  have := own_of_R (d := Kd.int .u8) (enc := eU) (f := id) (k := 1) rfl (fun h => h) (fun _ => rfl) h
  simpa using this
theorem l1Copy_c (A : Option Addr) (n c : Nat) (l : List Int) (w : World) (hn : l.length = n) (hx : Row eU 1 w A l) (hc : n ≤ c) (hm : n ≤ 1048576)
    (R : Ending → World → Prop) (h : ∀ A' c' w', Own eU 1 5 w' w.heap.size (.slice A' n c') l → n ≤ c' → c' ≤ maxLen → Below w.heap.size w w' → R (.returned (.slice A' n c')) w') :
    Calls Try.prog 195 #[.slice A n c] w R := by
  subst hn
  refine (spec_l1Copy.calls A c l l w (C_ints (by omega) hx) hc (by unfold spec_l1Copy.f; simp only [Option.bind_some, List.length_nil, List.nil_append]; rw [if_pos (by omega)])).mono ?_
  rintro e w' ⟨v, rfl, hR, hb⟩
  have ho := own_u8 hR
  obtain ⟨A', c', rfl, h1, h2, _⟩ := ho.row
  exact h A' c' w' ho h1 h2 hb
set_option maxRecDepth 20000 in
set_option maxHeartbeats 2000000 in
theorem l2Line_c (g : Nat) (A : Option Addr) (n c : Nat) (l : List Int) (w : World) (hp : w.cell? ⟨g, 0, none⟩ = some (.slice A n c)) (hn : l.length = n) (hx : Row eU 1 w A l) (hc : n ≤ c) (hm : n ≤ 1048576) (a b : Nat) (hab : a + b ≤ n)
    (R : Ending → World → Prop) (h : ∀ A' c' w', Own eU 1 5 w' w.heap.size (.slice A' b c') (subL l a b) → b ≤ c' → c' ≤ maxLen → Below w.heap.size w w' → R (.returned (.slice A' b c')) w') :
    Calls Try.prog 171 #[.pointer (some ⟨g, 0, none⟩), .agg #[.int .i64 a, .int .i64 b]] w R := by
  have H := Lib.hid h
  have HX := Lib.hid hx
  have HN := Lib.hid hn
  clear h hx hn
  have hs := Go.Proofs.YtjnmhpldabbeiaaW.PrintWords.cut_mid (P := Try.prog) 101 5 .i64 .i64 Try.underlying101 info_u8e 1 (by kernel_rfl) A n c (a : Int) ((a : Int) + (b : Int)) (by omega) (by omega) (by omega) hc
  have hL : ((a : Int) + (b : Int)).toNat - (a : Int).toNat = b := by omega
  have hmid := (HX.out).mid (c := c) (lo := (a : Int).toNat) (hi := ((a : Int) + (b : Int)).toNat) (by omega) (by rw [HN.out]; omega) (by rw [HN.out]; exact hc)
  rw [hL] at hs
  have e1 : (a : Int).toNat = a := Int.toNat_natCast a
  have e2 : ((a : Int) + (b : Int)).toNat = a + b := by omega
  rw [e2] at hmid
  rw [e1] at hs hmid
  obtain ⟨A2, hA2⟩ : ∃ A2, (if c = a then A else A.map (·.add (a * 1))) = A2 := ⟨_, rfl⟩
  rw [hA2] at hs hmid
  obtain ⟨c2, hc2⟩ : ∃ c2, c - a = c2 := ⟨_, rfl⟩
  rw [hc2] at hs
  have HLN := Lib.hid (show (subL l a b).length = b from subL_len (by rw [HN.out]; exact hab))
  have HM := Lib.hid (show Row eU 1 w A2 (subL l a b) from hmid)
  have HCC := Lib.hid (show b ≤ c2 by omega)
  have w1 : wrap64 ((a : Int) + (b : Int)) = (a : Int) + (b : Int) := by unfold wrap64; omega
  obtain ⟨W, hW⟩ : ∃ W, W = w.alloc (Obj.cells #[.int .i64 a, .int .i64 b] 222) := ⟨_, rfl⟩
  obtain ⟨b1, f1, hz, G0⟩ := box1 _ _ _ W hW
  have HW := Lib.hid hW
  have hp1 := cell_below G0 hp
  clear hW f1 hmid hL e1 e2 hA2 hc2 hp
  (change Calls _ _ _ _ (Fin R); go_enter Try.func171, Try.ntmps171)
  go_wp2_with (fail)
  rw [← HW.out]
  have HM2 := Lib.hid (show Row eU 1 W.drew A2 (subL l a b) from (HM.out.below G0).keeps (keeps_refl W))
  have e3 : IntKind.i64.wrap ((a : Int) + (b : Int)) = (a : Int) + (b : Int) := by rw [IntKind.wrap_i64]; omega
  have hs2 : ∀ W : World, (Instr.slice 101 (.slice A n c) (some (.int .i64 (a : Int))) (some (.int .i64 (IntKind.i64.wrap ((a : Int) + (b : Int))))) none).run Try.prog W = .ok (.slice A2 b c2) W := by rw [e3]; exact hs
  have hs3 : ∀ W : World, (Instr.slice 101 (.slice A n c) (some (.int .i64 (a : Int))) (some (.int .i64 (wrap64 ((a : Int) + (b : Int))))) none).run Try.prog W = .ok (.slice A2 b c2) W := by rw [w1]; exact hs
  have HL3 := Lib.hid (show b ≤ 1048576 by omega)
  go_region_with (first | (go_at_call 195; refine l1Copy_c A2 b c2 (subL l a b) _ HLN.out HM2.out HCC.out HL3.out _ ?_; intro A' c' w1 ho1 hc1 hm1 hbe))
  all_goals
    have hG := G0.trans ((below_drew hbe).mono G0.size)
    have HO := Lib.hid (ho1.lower (base' := w.heap.size) G0.size)
    clear ho1 hbe hs hs2 hs3
  all_goals go_wp2
  all_goals go_ret
  all_goals exact H.out A' c' _ HO.out hc1 hm1 hG
end Go.Proofs.Ytjnmhpldabbeiaa.M
end
section
namespace Go.Proofs.Ytjnmhpldabbeiaa.M
open Go.RowKit
def inB (a b c : Int) : Bool := decide (b ≤ a ∧ a ≤ c)
theorem inB_t {a b c : Int} (h : inB a b c = true) : b ≤ a ∧ a ≤ c := by simpa [inB] using h
theorem inB_f {a b c : Int} (h : inB a b c = false) : ¬ (b ≤ a ∧ a ≤ c) := by simpa [inB] using h
theorem l1In_c (a b c : Int) (q : Bool) (hq : inB a b c = q) (w : World) (R : Ending → World → Prop) (h : R (.returned (.bool q)) w) : Calls Try.prog 78 #[.int .i64 a, .int .i64 b, .int .i64 c] w R := by
  subst hq
  (change Calls _ _ _ _ (Fin R); go_enter Try.func78, Try.ntmps78)
  go_wp2
  all_goals (go_ret; exact retB h (by simp [inB]; try omega))
theorem l1In_q (a b c : Int) (q : Bool) (hq : inB a b c = q) (w : World) : Calls Try.prog 78 #[.int .i64 a, .int .i64 b, .int .i64 c] w fun e w' => e = .returned (.bool q) ∧ w' = w := l1In_c a b c q hq w _ ⟨rfl, rfl⟩
theorem within_c (a b c : Int) (q : Bool) (hq : inB a b c = q) (w : World) (R : Ending → World → Prop) (h : R (.returned (.bool q)) w) : Calls Try.prog 74 #[.int .i64 a, .int .i64 b, .int .i64 c] w R := by
  subst hq
  (change Calls _ _ _ _ (Fin R); go_enter Try.func74, Try.ntmps74)
  go_wp2
  all_goals (go_ret; exact retB h (by simp [inB]; try omega))
theorem within_q (a b c : Int) (q : Bool) (hq : inB a b c = q) (w : World) : Calls Try.prog 74 #[.int .i64 a, .int .i64 b, .int .i64 c] w fun e w' => e = .returned (.bool q) ∧ w' = w := within_c a b c q hq w _ ⟨rfl, rfl⟩
end Go.Proofs.Ytjnmhpldabbeiaa.M
end
section
namespace Go.Proofs.Ytjnmhpldabbeiaa.M
open Go.RowKit
def isChr (c : Int) : Bool := inB c 0 65535 && !inB c 55296 57343
def shown (c : Int) : Bool := isChr c && decide (32 ≤ c) && decide (c ≠ 127)
theorem isChr_alt (c : Int) : isChr c = (inB c 0 55295 || inB c 57344 65535) := by
  rw [Bool.eq_iff_iff]
  simp only [isChr, inB, Bool.and_eq_true, Bool.or_eq_true, Bool.not_eq_true', decide_eq_true_eq, decide_eq_false_iff_not]
  omega
theorem isChar_c (c : Int) (q : Bool) (hq : isChr c = q) (w : World) (R : Ending → World → Prop) (h : R (.returned (.bool q)) w) : Calls Try.prog 205 #[.int .i64 c] w R := by
  subst hq
  have H := Lib.hid h
  clear h
  rcases q1 : inB c 0 65535 with _ | _ <;> rcases q2 : inB c 55296 57343 with _ | _
  all_goals
    (change Calls _ _ _ _ (Fin R); go_enter Try.func205, Try.ntmps205)
    go_wp2_with (first | (go_at_call 74; first | (with_reducible refine within_c _ _ _ _ q1 _ _ ?_) | (with_reducible refine within_c _ _ _ _ q2 _ _ ?_)))
    go_ret
    exact retB H.out (by simp [isChr, q1, q2])
theorem isChar_q (c : Int) (q : Bool) (hq : isChr c = q) (w : World) : Calls Try.prog 205 #[.int .i64 c] w fun e w' => e = .returned (.bool q) ∧ w' = w := isChar_c c q hq w _ ⟨rfl, rfl⟩
theorem l1Char_c (c : Int) (q : Bool) (hq : isChr c = q) (w : World) (R : Ending → World → Prop) (h : R (.returned (.bool q)) w) : Calls Try.prog 209 #[.int .i64 c] w R := by
  subst hq
  have H := Lib.hid h
  clear h
  rcases q1 : inB c 0 55295 with _ | _ <;> rcases q2 : inB c 57344 65535 with _ | _
  all_goals
    (change Calls _ _ _ _ (Fin R); go_enter Try.func209, Try.ntmps209)
    go_wp2_with (first | (go_at_call 78; first | (with_reducible refine l1In_c _ _ _ _ q1 _ _ ?_) | (with_reducible refine l1In_c _ _ _ _ q2 _ _ ?_)))
    go_ret
    exact retB H.out (by simp [isChr_alt, q1, q2])
theorem l1Char_q (c : Int) (q : Bool) (hq : isChr c = q) (w : World) : Calls Try.prog 209 #[.int .i64 c] w fun e w' => e = .returned (.bool q) ∧ w' = w := l1Char_c c q hq w _ ⟨rfl, rfl⟩
end Go.Proofs.Ytjnmhpldabbeiaa.M
end
section
namespace Go.Proofs.Ytjnmhpldabbeiaa.M
theorem wraps_i64_63 (n : Int) (h₀ : 0 ≤ n) (h₁ : n < 2 ^ 63) : IntKind.i64.wrap n = n := by rw [IntKind.wrap_i64]; omega
theorem wraps_u8_8 (n : Int) (h₀ : 0 ≤ n) (h₁ : n < 2 ^ 8) : IntKind.u8.wrap n = n := by rw [IntKind.wrap_u8]; omega
theorem and63_i64 (x : Int) (h0 : 0 ≤ x) (h1 : x < 9223372036854775808) : bits .and .i64 x 63 = x % 64 := by
  have h := bits_mask .i64 63 (by decide) wraps_i64_63 6 (by decide) x h0 (by omega)
  have e : ((2 : Int) ^ 6 - 1) = 63 := by decide
  have e2 : ((2 : Int) ^ 6) = 64 := by decide
  rw [e, e2] at h
  exact h
theorem and63_u8 (x : Int) (h0 : 0 ≤ x) (h1 : x ≤ 255) : bits .and .u8 x 63 = x % 64 := by
  have h := bits_mask .u8 8 (by decide) wraps_u8_8 6 (by decide) x h0 (by omega)
  have e : ((2 : Int) ^ 6 - 1) = 63 := by decide
  have e2 : ((2 : Int) ^ 6) = 64 := by decide
  rw [e, e2] at h
  exact h
theorem and15_u8 (x : Int) (h0 : 0 ≤ x) (h1 : x ≤ 255) : bits .and .u8 x 15 = x % 16 := by
  have h := bits_mask .u8 8 (by decide) wraps_u8_8 4 (by decide) x h0 (by omega)
  have e : ((2 : Int) ^ 4 - 1) = 15 := by decide
  have e2 : ((2 : Int) ^ 4) = 16 := by decide
  rw [e, e2] at h
  exact h
end Go.Proofs.Ytjnmhpldabbeiaa.M
end
section
namespace Go.Proofs.Ytjnmhpldabbeiaa.M
open Go.RowKit
def bt (xs : List Int) (i : Nat) : Int := xs.getD i 0
def more (xs : List Int) (i : Nat) : Int := if xs.length ≤ i ∨ bt xs i < 128 ∨ 191 < bt xs i then -1 else bt xs i - 128
abbrev c3 (b x y : Int) : Int := (b - 224) * 4096 + x * 64 + y
def dec (xs : List Int) (i : Nat) : Int × Int :=
  if bt xs i < 128 then (bt xs i, 1)
  else if 194 ≤ bt xs i ∧ bt xs i < 224 ∧ 0 ≤ more xs (i + 1) then ((bt xs i - 192) * 64 + more xs (i + 1), 2)
  else if 224 ≤ bt xs i ∧ bt xs i < 240 ∧ 0 ≤ more xs (i + 1) ∧ 0 ≤ more xs (i + 2) ∧ 2048 ≤ c3 (bt xs i) (more xs (i + 1)) (more xs (i + 2)) ∧ isChr (c3 (bt xs i) (more xs (i + 1)) (more xs (i + 2))) then (c3 (bt xs i) (more xs (i + 1)) (more xs (i + 2)), 3)
  else (0, 0)
def enc (c : Int) : List Int := if c < 128 then [c] else if c < 2048 then [192 + c / 64, 128 + c % 64] else [224 + c / 4096, 128 + c / 64 % 64, 128 + c % 64]
def Byt (xs : List Int) : Prop := ∀ (i : Nat) y, xs[i]? = some y → 0 ≤ y ∧ y ≤ 255
theorem Byt.bt {xs : List Int} (h : Byt xs) (i : Nat) : 0 ≤ bt xs i ∧ bt xs i ≤ 255 := by
  unfold Go.Proofs.Ytjnmhpldabbeiaa.M.bt
  rw [List.getD_eq_getElem?_getD]
  cases hi : xs[i]? with
  | none => simp
  | some y => exact h i y hi
theorem more_in {xs : List Int} (i : Nat) : -1 ≤ more xs i ∧ more xs i ≤ 63 := by
  unfold more
  split <;> omega
theorem l1More_c (A : Option Addr) (n c : Nat) (xs : List Int) (i : Nat) (w : World) (hn : xs.length = n) (hx : Row eU 1 w A xs) (hB : Byt xs) (hi : i ≤ 2097152)
    (R : Ending → World → Prop) (h : R (.returned (.int .i64 (more xs i))) w) :
    Calls Try.prog 208 #[.slice A n c, .int .i64 i] w R := by
  have H := Lib.hid h
  clear h
  by_cases hlt : i < n
  · obtain ⟨y, hy⟩ := get_lt (xs := xs) (i := i) (by omega)
    obtain ⟨ad, rfl, a0⟩ := hx.eU hy
    have hb := hB i y hy
    have hbt : bt xs i = y := by simp [bt, hy]
    have HE := Lib.hid (show more xs i = if y < 128 ∨ 191 < y then -1 else y - 128 by
      unfold more
      rw [hbt]
      by_cases h2 : y < 128 ∨ 191 < y
      · rw [if_pos (Or.inr h2), if_pos h2]
      · rw [if_neg (by omega), if_neg h2])
    clear hbt hx hB hy
    (change Calls _ _ _ _ (Fin R); go_enter Try.func208, Try.ntmps208)
    go_wp2
    all_goals (go_ret; exact retI H.out (by rw [HE.out]; first | rw [if_pos (by omega)] | (rw [if_neg (by omega)])))
  · have HE := Lib.hid (show more xs i = -1 by unfold more; rw [if_pos (by omega)])
    clear hx hB
    (change Calls _ _ _ _ (Fin R); go_enter Try.func208, Try.ntmps208)
    go_wp2
    all_goals (go_ret; exact retI H.out (by rw [HE.out]))
theorem ret2i {R : Ending → World → Prop} {w : World} {p : Int × Int} {a' b' : Int} (h : R (.returned (.tuple #[.int .i64 p.1, .int .i64 p.2])) w) (e1 : a' = p.1) (e2 : b' = p.2) : Fin R (.returned (.tuple #[.int .i64 a', .int .i64 b'])) w := by rw [e1, e2]; exact h
set_option maxHeartbeats 2000000 in
theorem l1Decode_c (A : Option Addr) (n c : Nat) (xs : List Int) (i : Nat) (w : World) (hn : xs.length = n) (hx : Row eU 1 w A xs) (hB : Byt xs) (hm : n ≤ 1048576) (hi : i < n)
    (R : Ending → World → Prop) (h : R (.returned (.tuple #[.int .i64 (dec xs i).1, .int .i64 (dec xs i).2])) w) :
    Calls Try.prog 203 #[.slice A n c, .int .i64 i] w R := by
  have H := Lib.hid h
  clear h
  have hi2 : i ≤ 1048576 := by omega
  obtain ⟨b, hb⟩ := get_lt (xs := xs) (i := i) (by omega)
  obtain ⟨ad, rfl, a0⟩ := hx.eU hb
  obtain ⟨hb1, hb2⟩ := hB i b hb
  have hbt : bt xs i = b := by simp [bt, hb]
  obtain ⟨x, hX⟩ : ∃ x, more xs (i + 1) = x := ⟨_, rfl⟩
  obtain ⟨y, hY⟩ : ∃ y, more xs (i + 2) = y := ⟨_, rfl⟩
  have hx12 := more_in (xs := xs) (i + 1)
  have hy12 := more_in (xs := xs) (i + 2)
  have HD := Lib.hid (show dec xs i = if b < 128 then (b, 1) else if 194 ≤ b ∧ b < 224 ∧ 0 ≤ x then ((b - 192) * 64 + x, 2) else if 224 ≤ b ∧ b < 240 ∧ 0 ≤ x ∧ 0 ≤ y ∧ 2048 ≤ c3 b x y ∧ isChr (c3 b x y) then (c3 b x y, 3) else (0, 0) by
    unfold dec
    rw [hbt, hX, hY])
  rw [hX] at hx12
  rw [hY] at hy12
  have HX := Lib.hid hX
  have HY := Lib.hid hY
  have HR := Lib.hid hx
  have HB := Lib.hid hB
  have HN := Lib.hid hn
  have HM := Lib.hid hm
  have HI := Lib.hid hi
  clear hX hY hbt hx hB hb hn hm hi
  rcases q1 : isChr (c3 b x y) with _ | _
  all_goals
    (change Calls _ _ _ _ (Fin R); go_enter Try.func203, Try.ntmps203)
    go_wp2_with (fail)
    · go_ret2
      exact ret2i H.out (by rw [HD.out, if_pos (by omega)]) (by rw [HD.out, if_pos (by omega)])
    rw [show ((i : Int) + 1) = ((i + 1 : Nat) : Int) by omega]
    refine l1More_c _ n c xs (i + 1) _ HN.out HR.out HB.out (by omega) _ ?_
    rw [HX.out]
    go_wp2_with (fail)
    all_goals first
      | (go_ret2; exact ret2i H.out (by rw [HD.out, if_neg (by omega), if_pos (by omega)]) (by rw [HD.out, if_neg (by omega), if_pos (by omega)]))
      | (rw [show ((i : Int) + 2) = ((i + 2 : Nat) : Int) by omega]
         refine l1More_c _ n c xs (i + 2) _ HN.out HR.out HB.out (by omega) _ ?_
         rw [HY.out]
         go_wp2_with (first | (go_at_call 209; (with_reducible refine l1Char_c _ _ q1 _ _ ?_)))
         all_goals (go_ret2; refine ret2i H.out ?_ ?_ <;> (rw [HD.out, if_neg (by omega), if_neg (by omega)]; (try simp only [q1]); (try simp only [c3]); (repeat' split) <;> first | rfl | omega | (exfalso; simp_all; done) | (exfalso; simp_all; omega))))
theorem enc_len (x : Int) : (enc x).length = if x < 128 then 1 else if x < 2048 then 2 else 3 := by unfold enc; split; rfl; split <;> rfl
theorem enc_pos (x : Int) : 0 < (enc x).length := by rw [enc_len]; split; omega; split <;> omega
set_option maxHeartbeats 2000000 in
theorem encoded_c (x : Int) (h0 : 0 ≤ x) (h1 : x ≤ 65535) (w : World)
    (R : Ending → World → Prop) (h : ∀ A c w', Own eU 1 5 w' w.heap.size (.slice A (enc x).length c) (enc x) → (enc x).length ≤ c → c ≤ maxLen → Below w.heap.size w w' → R (.returned (.slice A (enc x).length c)) w') :
    Calls Try.prog 206 #[.int .i64 x] w R := by
  have H := Lib.hid h
  clear h
  have m1 : bits .and .i64 x 63 = x % 64 := and63_i64 x h0 (by omega)
  have m2 : bits .and .i64 (x / 64) 63 = x / 64 % 64 := and63_i64 _ (by omega) (by omega)
  have key : ∀ (n : Nat) (l : List Int), enc x = l → l.length = n → Fin R (.returned (.slice (some ⟨w.heap.size, 0, none⟩) n n)) (w.alloc (.cells (l.map (Value.int .u8)).toArray 5)) := fun n l hl hn => by
    have hx : enc x = l := hl
    have := H.out (some ⟨w.heap.size, 0, none⟩) n (w.alloc (.cells (l.map (Value.int .u8)).toArray 5))
    rw [hx, hn] at this
    refine this (Own.lit w _ l n (Nat.le_refl _) hn ?_ (Enc.map _ l)) (Nat.le_refl _) ?_ (by (repeat' (first | (with_reducible exact Below.refl _ _) | (with_reducible assumption) | (with_reducible refine Below.alloc ?_ ?_ _) | (with_reducible refine bdN ?_ _) | (with_reducible refine Below.drew ?_) | (with_reducible refine Below.setCell ?_ ?_ _) | go_size)))
    · rw [← hn, ← hx, enc_len]; unfold maxLen; split; omega; split <;> omega
    · rw [← hn, ← hx, enc_len]; unfold maxLen; split; omega; split <;> omega
  have K := Lib.hid key
  clear key
  (change Calls _ _ _ _ (Fin R); go_enter Try.func206, Try.ntmps206)
  go_wp2
  all_goals go_ret
  · exact K.out 1 [x] (by unfold enc; rw [if_pos (by omega)]) rfl
  · exact K.out 2 [192 + x / 64, 128 + x % 64] (by unfold enc; rw [if_neg (by omega), if_pos (by omega)]) rfl
  · exact K.out 3 [224 + x / 4096, 128 + x / 64 % 64, 128 + x % 64] (by unfold enc; rw [if_neg (by omega), if_neg (by omega)]) rfl
theorem conv_row (A : Option Addr) (n c : Nat) (xs : List Int) (w : World) (hn : xs.length = n) (hx : Row eU 1 w A xs) (h0 : 0 < n) : (convert 101 9 (.slice A n c)).run Try.prog w = .ok (.string (strOfNums xs)) w := by
  subst hn
  obtain ⟨x, hx0⟩ := get_lt (xs := xs) (i := 0) h0
  obtain ⟨ad, rfl, _⟩ := hx.eU hx0
  have hl : (loadCells ad xs.length).run Try.prog w = .ok (xs.map (Value.int .u8)).toArray w := by
    have := run_loadCells_list (P := Try.prog) w ad (xs.map (Value.int .u8)) (fun j v hj => by
      rw [List.getElem?_map] at hj
      cases hxj : xs[j]? with
      | none => rw [hxj] at hj; cases hj
      | some y =>
        rw [hxj] at hj
        obtain rfl : Value.int .u8 y = v := by simpa using hj
        obtain ⟨ad', e, hc⟩ := hx.eU hxj
        cases e
        exact hc)
    simpa using this
  rw [run_convert_bytes_string w 101 9 5 _ xs.length c Try.underlying101 Try.underlying5 Try.underlying9, run_bytesToString w _ xs.length c xs hl, foldl_push_bytes]
  simp [strOfNums, ByteArray.empty, ByteArray.emptyWithCapacity]
  rfl
theorem strOfNums_inj {xs ys : List Int} (hx : Byt xs) (hy : Byt ys) (h : strOfNums xs = strOfNums ys) : xs = ys := by
  have h1 : (xs.map fun n => UInt8.ofNat n.toNat) = ys.map fun n => UInt8.ofNat n.toNat := by
    have := congrArg (fun b : ByteArray => b.data.toList) h
    simpa [strOfNums_data] using this
  have hl : xs.length = ys.length := by simpa using congrArg List.length h1
  apply List.ext_getElem?
  intro i
  have hi := congrArg (fun l => l[i]?) h1
  simp only [List.getElem?_map] at hi
  cases hxi : xs[i]? with
  | none =>
    have : xs.length ≤ i := by simpa using hxi
    simp [← hl, this]
  | some x =>
    have : i < ys.length := by rw [← hl]; exact (List.getElem?_eq_some_iff.1 hxi).1
    obtain ⟨y, hyi⟩ := get_lt this
    rw [hyi]
    rw [hxi, hyi] at hi
    have e := Option.some.inj hi
    obtain ⟨a1, a2⟩ := hx i x hxi
    obtain ⟨b1, b2⟩ := hy i y hyi
    have := congrArg UInt8.toNat e
    simp only [UInt8.toNat_ofNat'] at this
    congr 1
    omega
theorem strNe_f {xs ys : List Int} (hx : Byt xs) (hy : Byt ys) (h : (!(strOfNums xs).toList == (strOfNums ys).toList) = false) : xs = ys := by
  have e : (strOfNums xs).toList = (strOfNums ys).toList := by simpa using h
  rw [ByteArray.toList_eq, ByteArray.toList_eq] at e
  refine strOfNums_inj hx hy ?_
  cases h1 : strOfNums xs
  cases h2 : strOfNums ys
  rw [h1, h2] at e
  congr 1
  exact Array.ext' e
theorem strNe_t {xs ys : List Int} (h : (!(strOfNums xs).toList == (strOfNums ys).toList) = true) : xs ≠ ys := fun e => by
  subst e
  simp at h
def decR (xs : List Int) (i : Nat) : Int × Int × Int := if (dec xs i).2 = 0 then (5, 0, 0) else (0, (dec xs i).1, (dec xs i).2)
theorem decR_one {xs : List Int} {i : Nat} {b : Int} (hb : bt xs i = b) (h0 : 0 ≤ b) (h1 : b < 192) : decR xs i = if enc b = [b] then (0, b, 1) else (5, 0, 0) := by
  by_cases h : b < 128
  · have hd : dec xs i = (b, 1) := by
      unfold dec
      rw [hb, if_pos h]
    have : enc b = [b] := by unfold enc; rw [if_pos h]
    rw [if_pos this]
    unfold decR
    rw [hd, if_neg (by simp)]
  · have hd : dec xs i = (0, 0) := by
      unfold dec
      rw [hb, if_neg h, if_neg (fun hh => by have := hh.1; omega), if_neg (fun hh => by have := hh.1; omega)]
    have : enc b ≠ [b] := fun e => by
      have := congrArg List.length e
      rw [enc_len, if_neg h] at this
      split at this <;> simp at this
    rw [if_neg this]
    unfold decR
    rw [hd, if_pos rfl]
theorem enc_byt {x : Int} (h0 : 0 ≤ x) (h1 : x ≤ 65535) : Byt (enc x) := fun i y hy => by
  unfold enc at hy
  split at hy
  · rcases i with _ | i
    · obtain rfl : x = y := by simpa using hy
      omega
    · simp at hy
  · split at hy
    · rcases i with _ | _ | i
      · have : 192 + x / 64 = y := by simpa using hy
        omega
      · have : 128 + x % 64 = y := by simpa using hy
        omega
      · simp at hy
    · rcases i with _ | _ | _ | i
      · have : 224 + x / 4096 = y := by simpa using hy
        omega
      · have : 128 + x / 64 % 64 = y := by simpa using hy
        omega
      · have : 128 + x % 64 = y := by simpa using hy
        omega
      · simp at hy
theorem more_of {xs : List Int} {i : Nat} {x : Int} (hx : bt xs i = x) (hi : i < xs.length) : more xs i = if 128 ≤ x ∧ x ≤ 191 then x - 128 else -1 := by
  unfold more
  rw [hx]
  by_cases h : 128 ≤ x ∧ x ≤ 191
  · rw [if_neg (by omega), if_pos h]
  · rw [if_pos (by omega), if_neg h]
theorem more_out {xs : List Int} {i : Nat} (hi : xs.length ≤ i) : more xs i = -1 := by
  unfold more
  rw [if_pos (Or.inl hi)]
theorem more_cases {xs : List Int} {i : Nat} {x : Int} (hx : bt xs i = x) (hi : i < xs.length) : (128 ≤ x ∧ x ≤ 191 ∧ more xs i = x - 128) ∨ (¬ (128 ≤ x ∧ x ≤ 191) ∧ more xs i = -1) := by
  rw [more_of hx hi]
  by_cases h : 128 ≤ x ∧ x ≤ 191
  · exact .inl ⟨h.1, h.2, if_pos h⟩
  · exact .inr ⟨h, if_neg h⟩
theorem decR_two {xs : List Int} {i : Nat} {b x : Int} (hb : bt xs i = b) (hx : bt xs (i + 1) = x) (h1 : 192 ≤ b) (h2 : b < 224) (x0 : 0 ≤ x) (x1 : x ≤ 255) (hi : i + 1 < xs.length) :
    decR xs i = if enc ((b - 192) * 64 + x % 64) = [b, x] then (0, (b - 192) * 64 + x % 64, 2) else (5, 0, 0) := by
  have hm := more_cases hx hi
  by_cases h : 194 ≤ b ∧ 128 ≤ x ∧ x ≤ 191
  · have hm2 : more xs (i + 1) = x - 128 := by rcases hm with h' | h' <;> omega
    have hd : dec xs i = ((b - 192) * 64 + x % 64, 2) := by
      unfold dec
      rw [hb, if_neg (show ¬ b < 128 by omega), if_pos (show 194 ≤ b ∧ b < 224 ∧ 0 ≤ more xs (i + 1) by omega), hm2]
      congr 1
      omega
    have : enc ((b - 192) * 64 + x % 64) = [b, x] := by
      unfold enc
      rw [if_neg (by omega), if_pos (by omega)]
      congr 1
      · omega
      · congr 1; omega
    rw [if_pos this]
    unfold decR
    rw [hd, if_neg (by simp)]
  · have hd : dec xs i = (0, 0) := by
      unfold dec
      rw [hb, if_neg (show ¬ b < 128 by omega), if_neg (show ¬ (194 ≤ b ∧ b < 224 ∧ 0 ≤ more xs (i + 1)) by rcases hm with h' | h' <;> omega), if_neg (fun hh => by have := hh.1; omega)]
    have : enc ((b - 192) * 64 + x % 64) ≠ [b, x] := fun e => by
      unfold enc at e
      split at e
      · simp at e
      · rw [if_pos (by omega)] at e
        simp at e
        omega
    rw [if_neg this]
    unfold decR
    rw [hd, if_pos rfl]
theorem decR_two_short {xs : List Int} {i : Nat} {b : Int} (hb : bt xs i = b) (h1 : 192 ≤ b) (h2 : b < 224) (hi : xs.length ≤ i + 1) : decR xs i = (5, 0, 0) := by
  have hd : dec xs i = (0, 0) := by
    unfold dec
    rw [hb, more_out hi, if_neg (show ¬ b < 128 by omega), if_neg (fun hh => by have := hh.2.2; omega), if_neg (fun hh => by have := hh.1; omega)]
  unfold decR
  rw [hd, if_pos rfl]
theorem decR_three_short {xs : List Int} {i : Nat} {b : Int} (hb : bt xs i = b) (h1 : 224 ≤ b) (hi : xs.length ≤ i + 2) : decR xs i = (5, 0, 0) := by
  have hd : dec xs i = (0, 0) := by
    unfold dec
    rw [hb, more_out hi, if_neg (show ¬ b < 128 by omega), if_neg (fun hh => by have := hh.2.1; omega), if_neg (fun hh => by have := hh.2.2.2.1; omega)]
  unfold decR
  rw [hd, if_pos rfl]
theorem decR_three {xs : List Int} {i : Nat} {b x y : Int} (hb : bt xs i = b) (hx : bt xs (i + 1) = x) (hy : bt xs (i + 2) = y) (h1 : 224 ≤ b) (x0 : 0 ≤ x) (x1 : x ≤ 255) (y0 : 0 ≤ y) (y1 : y ≤ 255) (hi : i + 2 < xs.length) :
    decR xs i = if isChr (((b - 224) * 64 + x % 64) * 64 + y % 64) ∧ enc (((b - 224) * 64 + x % 64) * 64 + y % 64) = [b, x, y] then (0, ((b - 224) * 64 + x % 64) * 64 + y % 64, 3) else (5, 0, 0) := by
  have hm := more_cases hx (by omega)
  have hn := more_cases hy hi
  have e1 : (128 ≤ x ∧ x ≤ 191) → (128 ≤ y ∧ y ≤ 191) → c3 b (x - 128) (y - 128) = ((b - 224) * 64 + x % 64) * 64 + y % 64 := by unfold c3; omega
  by_cases h : (128 ≤ x ∧ x ≤ 191) ∧ (128 ≤ y ∧ y ≤ 191) ∧ b < 240 ∧ 2048 ≤ c3 b (x - 128) (y - 128) ∧ isChr (c3 b (x - 128) (y - 128))
  · obtain ⟨hx', hy', hb', h3, h4⟩ := h
    have hm2 : more xs (i + 1) = x - 128 := by rcases hm with h' | h' <;> omega
    have hn2 : more xs (i + 2) = y - 128 := by rcases hn with h' | h' <;> omega
    have e := e1 hx' hy'
    have hd : dec xs i = (((b - 224) * 64 + x % 64) * 64 + y % 64, 3) := by
      unfold dec
      rw [hb, hm2, hn2, if_neg (show ¬ b < 128 by omega), if_neg (fun hh => by have := hh.2.1; omega), if_pos ⟨h1, hb', by omega, by omega, h3, h4⟩, e]
    rw [e] at h3 h4
    have : enc (((b - 224) * 64 + x % 64) * 64 + y % 64) = [b, x, y] := by
      unfold enc
      rw [if_neg (by omega), if_neg (by omega)]
      congr 1
      · omega
      · congr 1
        · omega
        · congr 1; omega
    rw [if_pos ⟨h4, this⟩]
    unfold decR
    rw [hd, if_neg (by simp)]
  · have hd : dec xs i = (0, 0) := by
      unfold dec
      rw [hb, if_neg (show ¬ b < 128 by omega), if_neg (fun hh => by have := hh.2.1; omega), if_neg]
      intro ⟨_, hb', hh1, hh2, h3, h4⟩
      rcases hm with ⟨a1, a2, a3⟩ | ⟨_, a3⟩
      · rcases hn with ⟨b1, b2, b3⟩ | ⟨_, b3⟩
        · rw [a3, b3] at h3 h4
          exact h ⟨⟨a1, a2⟩, ⟨b1, b2⟩, hb', h3, h4⟩
        · rw [b3] at hh2; omega
      · rw [a3] at hh1; omega
    have hne : ¬ (isChr (((b - 224) * 64 + x % 64) * 64 + y % 64) ∧ enc (((b - 224) * 64 + x % 64) * 64 + y % 64) = [b, x, y]) := fun ⟨q, e⟩ => by
      have hq := q
      unfold isChr inB at q
      simp only [Bool.and_eq_true, decide_eq_true_eq] at q
      unfold enc at e
      split at e
      · simp at e
      · split at e
        · simp at e
        · simp at e
          have a1 : 128 ≤ x ∧ x ≤ 191 := by omega
          have a2 : 128 ≤ y ∧ y ≤ 191 := by omega
          have e2 := e1 a1 a2
          refine h ⟨a1, a2, by omega, ?_, ?_⟩
          · rw [e2]; omega
          · rw [e2]; exact hq
    rw [if_neg hne]
    unfold decR
    rw [hd, if_pos rfl]
end Go.Proofs.Ytjnmhpldabbeiaa.M
end
section
namespace Go.Proofs.Ytjnmhpldabbeiaa.M
open Go.RowKit
def eI (x : Int) : List Value := [.int .i64 x]
theorem eI_len (x : Int) : (eI x).length = 1 := rfl
def mkeI (k : Int) : Int := k
theorem Row.eI {w : World} {A : Option Addr} {xs : List Int} (h : Row eI 1 w A xs) {i : Nat} {x : Int} (hx : xs[i]? = some x) : ∃ ad, A = some ad ∧ w.cell? (ad.add i) = some (.int .i64 x) := Row.one (f := fun x => .int .i64 x) h hx
set_option maxHeartbeats 1000000 in
theorem eqInt64S_c (A B : Option Addr) (c d : Nat) (xs ys : List Int) (w : World) (hx : Row eI 1 w A xs) (hy : Row eI 1 w B ys) (hc : xs.length ≤ c) (hd : ys.length ≤ d) (hm : c ≤ maxLen) (q : Bool) (hq : decide (xs = ys) = q)
    (R : Ending → World → Prop) (h : ∀ w', Below w.heap.size w w' → R (.returned (.bool q)) w') :
    Calls Try.prog 47 #[.slice A xs.length c, .slice B ys.length d] w R := by
  have HX := Lib.hid hx
  have HY := Lib.hid hy
  have HQ := Lib.hid hq
  clear hx hy hq
  obtain ⟨n, hn⟩ : ∃ n, xs.length = n := ⟨_, rfl⟩
  obtain ⟨m, hm'⟩ : ∃ m, ys.length = m := ⟨_, rfl⟩
  rw [hn] at hc ⊢
  rw [hm'] at hd ⊢
  have HN := Lib.hid hn
  have HM := Lib.hid hm'
  clear hn hm'
  unfold maxLen at hm
  by_cases hnm : n = m
  · subst hnm
    (change Calls _ _ _ _ (Fin R); go_enter Try.func47, Try.ntmps47)
    go_wp2
    go_loopg [5] n (fun g i wr => ∃ k : Nat, g = n - k ∧ k ≤ n ∧ i = .int .i64 k ∧ Hid (∀ j, j < k → xs[j]? = ys[j]?) ∧ Below w.heap.size w wr)
    case atStart => exact ⟨0, rfl, by omega, rfl, fun j hj => by omega, Below.refl _ _⟩
    case round =>
      obtain ⟨k, rfl, hk, rfl, HE, hb⟩ := hrel
      by_cases hlt : k < n
      · obtain ⟨x, hx⟩ := get_lt (xs := xs) (i := k) (by rw [HN.out]; exact hlt)
        obtain ⟨y, hy⟩ := get_lt (xs := ys) (i := k) (by rw [HM.out]; exact hlt)
        obtain ⟨ad, rfl, a0⟩ := HX.out.eI hx
        obtain ⟨bd, rfl, b0⟩ := HY.out.eI hy
        replace a0 := cell_below (hb.mono (Nat.le_refl _)) a0
        replace b0 := cell_below (hb.mono (Nat.le_refl _)) b0
        have HXX := Lib.hid hx
        have HYY := Lib.hid hy
        have hl2 : (k : Int) < (n : Int) := by omega
        clear hx hy
        rcases hxy : (x != y) with _ | _
        all_goals
          go_wp2_with (fail)
          go_quiet (fail)
          clear a0 b0
        · go_wp2
          go_roundg (n - (k + 1))
          case measure => omega
          case rel =>
            refine ⟨k + 1, rfl, by omega, by go_num, fun j hj => ?_, by (repeat' (first | (with_reducible exact Below.refl _ _) | (with_reducible assumption) | (with_reducible refine Below.alloc ?_ ?_ _) | (with_reducible refine bdN ?_ _) | (with_reducible refine Below.drew ?_) | (with_reducible refine Below.setCell ?_ ?_ _) | go_size))⟩
            by_cases hjk : j = k
            · rw [hjk, HXX.out, HYY.out, (by simpa using hxy : x = y)]
            · exact HE.out j (by omega)
        · go_wp2
          go_ret
          refine retB (h _ (by (repeat' (first | (with_reducible exact Below.refl _ _) | (with_reducible assumption) | (with_reducible refine Below.alloc ?_ ?_ _) | (with_reducible refine bdN ?_ _) | (with_reducible refine Below.drew ?_) | (with_reducible refine Below.setCell ?_ ?_ _) | go_size)))) ?_
          rw [← HQ.out, eq_comm, decide_eq_false_iff_not]
          rintro rfl
          have := Option.some.inj (HXX.out.symm.trans HYY.out)
          simp [this] at hxy
      · have : k = n := by omega
        subst this
        go_wp2
        go_ret
        refine retB (h _ hb) ?_
        rw [← HQ.out, eq_comm, decide_eq_true_eq]
        exact List.ext_getElem? fun j => by
          by_cases hj : j < k
          · exact HE.out j hj
          · rw [List.getElem?_eq_none (by rw [HN.out]; omega), List.getElem?_eq_none (by rw [HM.out]; omega)]
  · (change Calls _ _ _ _ (Fin R); go_enter Try.func47, Try.ntmps47)
    go_wp2
    go_ret
    refine retB (h _ (Below.refl _ _)) ?_
    rw [← HQ.out, eq_comm, decide_eq_false_iff_not]
    rintro rfl
    exact hnm (HN.out.symm.trans HM.out)
theorem info_eI : (Try.prog.info? 2).map (fun i => (i.zero, i.size, i.bytes)) = some (some (.int .i64 0), 1, 8) := by kernel_rfl
set_option maxHeartbeats 1000000 in
theorem toInt64S_c (A : Option Addr) (c : Nat) (xs : List Int) (w : World) (hx : Row eI 1 w A xs) (hc : xs.length ≤ c) (hm : xs.length ≤ 1048576)
    (R : Ending → World → Prop) (h : ∀ v w', Own eI 1 2 w' w.heap.size v xs → Below w.heap.size w w' → R (.returned v) w') :
    Calls Try.prog 45 #[.slice A xs.length c] w R := by
  have HX := Lib.hid hx
  clear hx
  obtain ⟨n, hn⟩ : ∃ n, xs.length = n := ⟨_, rfl⟩
  rw [hn] at hc hm ⊢
  have HN := Lib.hid hn
  clear hn
  (change Calls _ _ _ _ (Fin R); go_enter Try.func45, Try.ntmps45)
  go_wp2_with (first | (at_make; refine wp_make eI 1 _ w.heap.size rfl (.tmp 6) (.tmp 6) 49 2 rfl Try.underlying49 (.int .i64 0) 8 info_eI 0 rfl rfl (by decide) n rfl rfl (by omega) (by unfold maxLen; omega) (by simp) ?_; intro g w1 hown hb1))
  have HO := Lib.hid hown
  clear hown
  go_loopg [4] n (fun gk i wr => ∃ (k : Nat) (ys : List Int), gk = n - k ∧ k ≤ n ∧ i = .int .i64 k ∧ Own eI 1 2 wr w.heap.size (.slice (some ⟨g, 0, none⟩) n n) ys ∧ Hid (∀ j, j < k → ys[j]? = xs[j]?) ∧ Below w.heap.size w wr)
  case atStart => exact ⟨0, _, rfl, by omega, rfl, HO.out, fun j hj => by omega, hb1⟩
  case round =>
    obtain ⟨k, ys, rfl, hk, rfl, ho, HE, hb⟩ := hrel
    have hlen := Lib.hid ho.len
    by_cases hlt : k < n
    · obtain ⟨x, hx⟩ := get_lt (xs := xs) (i := k) (by rw [HN.out]; exact hlt)
      obtain ⟨y, hy⟩ := get_lt (xs := ys) (i := k) (by rw [hlen.out]; exact hlt)
      obtain ⟨ad, rfl, a0⟩ := HX.out.eI hx
      replace a0 := cell_below hb a0
      have b0 : wr.cell? ⟨g, k, none⟩ = some (.int .i64 y) := by have := (ho.at_ hy).one; rwa [Nat.mul_one] at this
      have f0 := ho.free k
      have HA := Lib.hid ho
      have HXX := Lib.hid hx
      clear hx hy ho
      go_wp2
      have hput := HA.out.put eI_len hlt x
      rw [Nat.mul_one] at hput
      obtain ⟨hown2, hg2⟩ := hput
      have hlt2 := HA.out.lt'
      have hb3 := below_of_grown hb hg2 hlt2.1 hlt2.2
      clear a0 b0 f0
      go_roundg (n - (k + 1))
      case measure => omega
      case rel =>
        refine ⟨k + 1, ys.set k x, rfl, by omega, by go_num, hown2, fun j hj => ?_, hb3⟩
        by_cases hjk : j = k
        · rw [hjk, List.getElem?_set_self (by rw [hlen.out]; exact hlt), HXX.out]
        · rw [List.getElem?_set_ne (Ne.symm hjk)]
          exact HE.out j (by omega)
    · have : k = n := by omega
      subst this
      go_wp2
      go_ret
      have : ys = xs := List.ext_getElem? fun j => by
        by_cases hj : j < k
        · exact HE.out j hj
        · rw [List.getElem?_eq_none (by rw [hlen.out]; omega), List.getElem?_eq_none (by rw [HN.out]; omega)]
      exact h _ _ (this ▸ ho) hb
theorem szInt64S_c (A : Option Addr) (n c : Nat) (left : Int) (w : World) (hm : n ≤ maxLen) (hl : 0 ≤ left) (hl2 : left ≤ 1048576)
    (R : Ending → World → Prop) (h : R (.returned (.int .i64 (if left - n < 0 then -1 else left - n))) w) :
    Calls Try.prog 184 #[.slice A n c, .int .i64 left] w R := by
  unfold maxLen at hm
  by_cases hlt : left - n < 0
  all_goals
    (change Calls _ _ _ _ (Fin R); go_enter Try.func184, Try.ntmps184)
    go_wp2
    go_ret
    exact retI h (by split <;> omega)
set_option maxHeartbeats 1000000 in
theorem markInt64S_c (v : Value) (xs : List Int) (e base : Nat) (k : Int) (w : World) (ho : Own eI 1 e w base v xs) (hm : xs.length ≤ 281474976710656) (hk0 : 0 ≤ k) (hk : k ≤ 1125899906842624)
    (R : Ending → World → Prop) (h : ∀ w' ys, Own eI 1 e w' base v ys → ys.length = xs.length → Mkd mkeI 1 k ys → w.grownBy w' v.ownBlock → R (.returned (.int .i64 (k + 1 * xs.length))) w') :
    Calls Try.prog 51 #[v, .int .i64 k] w R := by
  obtain ⟨n, hn⟩ : ∃ n, xs.length = n := ⟨_, rfl⟩
  rcases Nat.eq_zero_or_pos n with h0 | h0
  · obtain ⟨A, c, rfl, hc, hcm, hr⟩ := ho.row
    rw [hn, h0] at hc ⊢
    have HN := Lib.hid hn
    have HO := Lib.hid ho
    have H0 := Lib.hid h0
    have HH := Lib.hid h
    clear hn ho h0 hr h
    (change Calls _ _ _ _ (Fin R); go_enter Try.func51, Try.ntmps51)
    go_wp2
    go_rounds 1
    go_ret
    have := HH.out _ xs HO.out rfl (fun j y hy => by rw [List.eq_nil_of_length_eq_zero (HN.out.trans H0.out)] at hy; simp at hy) (World.grownBy.refl _ _)
    rw [HN.out, H0.out] at this
    exact retI this (by simp)
  · obtain ⟨g, c, rfl, hg1, hg2, hc, hcm⟩ := ho.shape (by rw [hn]; exact h0)
    rw [hn] at hc hm ho h ⊢
    have HN := Lib.hid hn
    have HH := Lib.hid h
    clear hn h
    (change Calls _ _ _ _ (Fin R); go_enter Try.func51, Try.ntmps51)
    go_wp2
    go_loopg [1, 5] n (fun gk v1 i wr => ∃ (j : Nat) (ys : List Int) (q : Int), gk = n - j ∧ j ≤ n ∧ i = .int .i64 j ∧ v1 = .int .i64 q ∧ Hid (q = k + 1 * j) ∧ 0 ≤ q ∧ q ≤ 2251799813685248 ∧ Own eI 1 e wr base (.slice (some ⟨g, 0, none⟩) n c) ys ∧ Hid (∀ (i : Nat) y, i < j → ys[i]? = some y → y = mkeI (k + 1 * i)) ∧ w.grownBy wr (some g))
    case atStart => exact ⟨0, xs, k, rfl, by omega, rfl, rfl, (by simp [Hid]), hk0, by omega, ho, fun i y hi => by omega, World.grownBy.refl _ _⟩
    case round =>
      obtain ⟨j, ys, q, rfl, hj, rfl, rfl, HQ, hq0, hq1, ho, HM, hgr⟩ := hrel
      have hlen := Lib.hid ho.len
      by_cases hlt : j < n
      · obtain ⟨y, hy⟩ := get_lt (xs := ys) (i := j) (by rw [hlen.out]; exact hlt)
        have b0 : wr.cell? ⟨g, j, none⟩ = some (.int .i64 y) := by have := (ho.at_ hy).one; rwa [Nat.mul_one] at this
        have f0 := ho.free j
        have HO := Lib.hid ho
        clear hy ho
        skip
        go_wp2
        have hput := HO.out.put eI_len hlt (mkeI q)
        rw [Nat.mul_one] at hput
        obtain ⟨hown2, hg2⟩ := hput
        clear b0 f0
        go_roundg (n - (j + 1))
        case measure => omega
        case rel =>
          have hqq := HQ.out
          refine ⟨j + 1, ys.set j (mkeI q), q + 1, rfl, by omega, by go_num, by go_num, (by simp only [Hid]; omega), by omega, by omega, hown2, fun i z hi hz => ?_, grown_trans' hgr hg2⟩
          by_cases hij : i = j
          · subst hij
            rw [List.getElem?_set_self (by rw [hlen.out]; exact hlt)] at hz
            rw [← Option.some.inj hz, hqq]
          · rw [List.getElem?_set_ne (Ne.symm hij)] at hz
            exact HM.out i z (by omega) hz
      · have : j = n := by omega
        subst this
        go_wp2
        go_ret
        refine retI (HH.out _ ys ho hlen.out (fun i z hz => HM.out i z (by have := (List.getElem?_eq_some_iff.1 hz).1; rw [hlen.out] at this; exact this) hz) hgr) HQ.out
set_option maxHeartbeats 1000000 in
theorem heldInt64S_c (A : Option Addr) (c : Nat) (xs : List Int) (k : Int) (w : World) (hx : Row eI 1 w A xs) (hM : Mkd mkeI 1 k xs) (hc : xs.length ≤ c) (hm : xs.length ≤ 281474976710656) (hk0 : 0 ≤ k) (hk : k ≤ 1125899906842624)
    (R : Ending → World → Prop) (h : ∀ w', Below w.heap.size w w' → R (.returned (.int .i64 (k + 1 * xs.length))) w') :
    Calls Try.prog 84 #[.slice A xs.length c, .int .i64 k] w R := by
  have HX := Lib.hid hx
  have HM := Lib.hid hM
  clear hx hM
  obtain ⟨n, hn⟩ : ∃ n, xs.length = n := ⟨_, rfl⟩
  rw [hn] at hc hm h ⊢
  have HN := Lib.hid hn
  have HH := Lib.hid h
  clear hn h
  (change Calls _ _ _ _ (Fin R); go_enter Try.func84, Try.ntmps84)
  go_wp2
  go_loopg [1, 5] n (fun gk v1 i wr => ∃ (j : Nat) (q : Int), gk = n - j ∧ j ≤ n ∧ i = .int .i64 j ∧ v1 = .int .i64 q ∧ Hid (q = k + 1 * j) ∧ 0 ≤ q ∧ q ≤ 2251799813685248 ∧ Below w.heap.size w wr)
  case atStart => exact ⟨0, k, rfl, by omega, rfl, rfl, (by simp [Hid]), hk0, by omega, Below.refl _ _⟩
  case round =>
    obtain ⟨j, q, rfl, hj, rfl, rfl, HQ, hq0, hq1, hb⟩ := hrel
    by_cases hlt : j < n
    · obtain ⟨y, hy⟩ := get_lt (xs := xs) (i := j) (by rw [HN.out]; exact hlt)
      have hyq := Mkd.congr HM.out hy HQ.out
      rw [hyq] at hy
      clear hyq
      obtain ⟨ad, rfl, b1⟩ := HX.out.eI hy
      have b0 : wr.cell? (ad.add j) = some (.int .i64 (q)) := cell_below hb b1
      clear hy b1
      skip
      go_wp2
      clear b0
      go_roundg (n - (j + 1))
      case measure => omega
      case rel =>
        have hqq := HQ.out
        exact ⟨j + 1, q + 1, rfl, by omega, by go_num, by go_num, (by simp only [Hid]; omega), by omega, by omega, hb⟩
    · have : j = n := by omega
      subst this
      go_wp2
      go_ret
      exact retI (HH.out _ hb) HQ.out
end Go.Proofs.Ytjnmhpldabbeiaa.M
end
section
namespace Go.Proofs.Ytjnmhpldabbeiaa.M
open Go.RowKit
structure Cel where
  a : Int
  b : Int
  c : Int
deriving DecidableEq
def eCel (x : Cel) : List Value := [.int .i64 x.a, .int .i64 x.b, .int .i64 x.c]
theorem eCel_len (x : Cel) : (eCel x).length = 3 := rfl
def mkCel (k : Int) : Cel := ⟨k, k + 1, k + 1 + 1⟩
end Go.Proofs.Ytjnmhpldabbeiaa.M
end
section
namespace Go.Proofs.Ytjnmhpldabbeiaa.M
open Go.RowKit
def hexF (v : Int) : Int := if v < 10 then 48 + v else 55 + v
def shownL (xs : List Int) (i col : Nat) : List Int × Int :=
  if bt xs i = 9 then (List.replicate (4 - col % 4) 32, 1)
  else if bt xs i < 32 ∨ bt xs i = 127 then ([94, bits .xor .u8 (bt xs i) 64], 1)
  else if (dec xs i).2 = 0 then ([60, hexF (bt xs i / 16), hexF (bt xs i % 16), 62], 1)
  else ([(dec xs i).1], (dec xs i).2)
def hexS : ByteArray := ⟨#[48, 49, 50, 51, 52, 53, 54, 55, 56, 57, 65, 66, 67, 68, 69, 70]⟩
theorem hex_get (k : Nat) (h : k < hexS.size) : ((hexS[k]'h).toNat : Int) = hexF k := by
  have hk : k < 16 := h
  have : k = 0 ∨ k = 1 ∨ k = 2 ∨ k = 3 ∨ k = 4 ∨ k = 5 ∨ k = 6 ∨ k = 7 ∨ k = 8 ∨ k = 9 ∨ k = 10 ∨ k = 11 ∨ k = 12 ∨ k = 13 ∨ k = 14 ∨ k = 15 := by omega
  rcases this with rfl | rfl | rfl | rfl | rfl | rfl | rfl | rfl | rfl | rfl | rfl | rfl | rfl | rfl | rfl | rfl <;> rfl
theorem hexF_in (k : Int) (h0 : 0 ≤ k) (h1 : k < 16) : 48 ≤ hexF k ∧ hexF k ≤ 70 := by unfold hexF; split <;> omega
theorem hex_at (v : Int) (h0 : 0 ≤ v) (h1 : v < 16) (h : v.toNat < hexS.size) : wrap64 ((hexS[v.toNat]'h).toNat : Int) = hexF v := by
  have e := hex_get v.toNat h
  have e1 : ((v.toNat : Nat) : Int) = v := by omega
  have e2 := hexF_in v h0 h1
  rw [e1] at e
  rw [e]
  exact IntWalk.wrap64_in _ (by omega)
theorem l1Digit_c (v : Int) (h0 : 0 ≤ v) (h1 : v < 16) (w : World) (R : Ending → World → Prop) (h : R (.returned (.int .i64 (hexF v))) w) : Calls Try.prog 204 #[.int .u8 v] w R := by
  obtain ⟨k, rfl⟩ : ∃ k : Nat, v = (k : Int) := ⟨v.toNat, by omega⟩
  have hk : k < 16 := by omega
  have H := Lib.hid h
  clear h
  (change Calls _ _ _ _ (Fin R); go_enter Try.func204, Try.ntmps204)
  go_wp2
  go_ret
  refine retI H.out ?_
  have e := hex_get k (show k < hexS.size from hk)
  have e2 := hexF_in k (by omega) (by omega)
  have e3 : ∀ (z : Int), z = hexF k → wrap64 z = hexF k := fun z hz => by rw [hz]; exact IntWalk.wrap64_in _ (by omega)
  exact e3 _ e
theorem xor_in (b : Int) (h0 : 0 ≤ b) (h1 : b ≤ 127) : 0 ≤ bits .xor .u8 b 64 ∧ bits .xor .u8 b 64 ≤ 127 := by
  obtain ⟨k, rfl⟩ : ∃ k : Nat, b = (k : Int) := ⟨b.toNat, by omega⟩
  have h : ∀ k : Nat, k < 128 → (decide (0 ≤ bits .xor .u8 (k : Int) 64 ∧ bits .xor .u8 (k : Int) 64 ≤ 127)) = true := by decide +kernel
  exact of_decide_eq_true (h k (by omega))
theorem info_i64 : (Try.prog.info? 2).map (fun i => (i.zero, i.size, i.bytes)) = some (some (.int .i64 0), 1, 8) := by kernel_rfl
theorem eI_one (y : Int) : ∀ u ∈ eI y, u.oneCell' = true := by simp [eI, Value.oneCell']
theorem ret_shown {R : Ending → World → Prop} {w : World} {A : Option Addr} {n n' c : Nat} {m m' : Int} (h : R (.returned (.tuple #[.slice A n c, .int .i64 m])) w) (e1 : n' = n) (e2 : m' = m) : Fin R (.returned (.tuple #[.slice A n' c, .int .i64 m'])) w := by rw [e1, e2]; exact h
set_option maxHeartbeats 2000000 in
theorem l1Shown_c (A : Option Addr) (n c : Nat) (xs : List Int) (i col : Nat) (w : World) (hn : xs.length = n) (hx : Row eU 1 w A xs) (hB : Byt xs) (hm : n ≤ 1048576) (hi : i < n) (hcol : col ≤ 16777216) (L : List Int) (m : Int) (hL : shownL xs i col = (L, m))
    (R : Ending → World → Prop) (h : ∀ A' c' w', Own eI 1 2 w' w.heap.size (.slice A' L.length c') L → L.length ≤ c' → c' ≤ maxLen → Below w.heap.size w w' → R (.returned (.tuple #[.slice A' L.length c', .int .i64 m])) w') :
    Calls Try.prog 200 #[.slice A n c, .int .i64 i, .int .i64 col] w R := by
  have H := Lib.hid h
  have HL := Lib.hid hL
  clear h hL
  obtain ⟨b, hb⟩ := get_lt (xs := xs) (i := i) (by omega)
  obtain ⟨ad, rfl, a0⟩ := hx.eU hb
  obtain ⟨hb1, hb2⟩ := hB i b hb
  have hbt : bt xs i = b := by simp [bt, hb]
  have HR := Lib.hid hx
  have HB := Lib.hid hB
  have HN := Lib.hid hn
  have HT := Lib.hid hbt
  have HI := Lib.hid hi
  obtain ⟨d, hd⟩ : ∃ d, dec xs i = d := ⟨_, rfl⟩
  obtain ⟨ch, us⟩ := d
  have HD := Lib.hid hd
  clear hx hB hn hbt hb hd
  have key : ∀ (W : World) (l : List Int) (k : Nat) (q : Int), Below w.heap.size w W → L = l → k = l.length → q = m → l.length ≤ 8 → Fin R (.returned (.tuple #[.slice (some ⟨W.heap.size, 0, none⟩) k k, .int .i64 q])) (W.alloc (.cells (l.map (Value.int .i64)).toArray 2)) := fun W l k q hG hl hk hq h8 => by
    subst hl hk hq
    refine H.out _ _ _ (Own.lower (Own.lit W _ L L.length (Nat.le_refl _) rfl ?_ (Enc.map _ L)) hG.size) (Nat.le_refl _) ?_ (Below.alloc hG hG.size _)
    · unfold maxLen; omega
    · unfold maxLen; omega
  have K := Lib.hid key
  clear key
  by_cases h9 : b = 9
  · subst h9
    have hs : shownL xs i col = (List.replicate (4 - col % 4) 32, 1) := by unfold shownL; rw [HT.out, if_pos rfl]
    rw [HL.out] at hs
    have hL := Lib.hid (congrArg Prod.fst hs)
    have hM := Lib.hid (congrArg Prod.snd hs)
    obtain ⟨k0, hk0⟩ : ∃ k0, col % 4 = k0 := ⟨_, rfl⟩
    have hk1 : k0 < 4 := by omega
    have hk2 : (col : Int) % 4 = (k0 : Int) := by omega
    rw [hk0] at hL
    clear hs hk0
    (change Calls _ _ _ _ (Fin R); go_enter Try.func200, Try.ntmps200)
    go_wp2_with (fail)
    go_loopg [9, 10] (4 - k0) (fun gk v9 v10 wr => ∃ (j : Nat) (B : Option Addr) (d : Nat), gk = 4 - k0 - j ∧ k0 + j ≤ 4 ∧ v9 = .slice B j d ∧ v10 = .int .i64 ((k0 + j : Nat) : Int) ∧ j ≤ d ∧ d ≤ maxLen ∧ Own eI 1 2 wr w.heap.size (.slice B j d) (List.replicate j 32) ∧ Below w.heap.size w wr)
    case atStart => exact ⟨0, some ⟨w.heap.size, 0, none⟩, 0, by omega, by omega, rfl, rfl, Nat.le_refl _, by unfold maxLen; omega, Own.lit w _ [] 0 (Nat.le_refl _) rfl (by unfold maxLen; omega) (Enc.map _ []), by (repeat' (first | (with_reducible exact Below.refl _ _) | (with_reducible assumption) | (with_reducible refine Below.alloc ?_ ?_ _) | (with_reducible refine bdN ?_ _) | (with_reducible refine Below.drew ?_) | (with_reducible refine Below.setCell ?_ ?_ _) | go_size))⟩
    case round =>
      obtain ⟨j, B, d, rfl, hj, rfl, rfl, hd1, hd2, ho, hG⟩ := hrel
      by_cases hlt : k0 + j < 4
      · have HO := Lib.hid ho
        clear ho
        go_wp2_with (first | (at_builtin; refine wp_append1 eI 1 _ w.heap.size rfl _ _ 49 2 2 rfl Try.underlying49 (.int .i64 0) 8 info_i64 0 rfl eI_len (by decide) eI_one _ (List.replicate j 32) rfl HO.out 32 _ rfl rfl (by simp; omega) (by simp; unfold maxLen; omega) hG.size ?_; intro v' w' ho' hg'))
        go_roundg (4 - k0 - (j + 1))
        case measure => omega
        case rel =>
          rw [← List.replicate_succ'] at ho'
          obtain ⟨B', d', rfl, h1, h2, _⟩ := ho'.row
          rw [List.length_replicate] at h1 ho' ⊢
          exact ⟨j + 1, B', d', rfl, by omega, rfl, by go_num, h1, h2, ho', below_own hG hg' (fun g e => (HO.out.lt e).1) hG.size⟩
      · have hj4 : j = 4 - k0 := by omega
        subst hj4
        have HO := Lib.hid ho
        clear ho
        go_wp2
        go_ret2
        have hl := hL.out
        have hmm := hM.out
        change L = _ at hl
        change m = _ at hmm
        subst hl hmm
        refine ret_shown (H.out B d _ ?_ ?_ hd2 hG) (by simp) rfl
        · rw [List.length_replicate]; exact HO.out
        · rw [List.length_replicate]; exact hd1
  by_cases h32 : b < 32 ∨ b = 127
  · have hs : shownL xs i col = ([94, bits .xor .u8 b 64], 1) := by unfold shownL; rw [HT.out, if_neg h9, if_pos h32]
    rw [HL.out] at hs
    have hL := Lib.hid (congrArg Prod.fst hs)
    have hM := Lib.hid (congrArg Prod.snd hs)
    obtain ⟨x0, x1⟩ := xor_in b (by omega) (by omega)
    clear hs
    rcases h32 with hlt | rfl
    all_goals
      (change Calls _ _ _ _ (Fin R); go_enter Try.func200, Try.ntmps200)
      go_wp2_with (fail)
      go_ret2
      exact K.out _ [94, bits .xor .u8 _ 64] 2 1 (Below.refl _ _) hL.out rfl hM.out.symm (by simp)
  have hdig1 : 0 ≤ b / 16 ∧ b / 16 < 16 := by omega
  have h1 : ¬ b < 32 := by omega
  have h2 : ¬ b = 127 := by omega
  by_cases hu : us = 0
  · have hs : shownL xs i col = ([60, hexF (b / 16), hexF (b % 16), 62], 1) := by unfold shownL; rw [HT.out, if_neg h9, if_neg h32, HD.out, if_pos hu]
    rw [HL.out] at hs
    have hL := Lib.hid (congrArg Prod.fst hs)
    have hM := Lib.hid (congrArg Prod.snd hs)
    clear hs h32
    (change Calls _ _ _ _ (Fin R); go_enter Try.func200, Try.ntmps200)
    go_wp2_with (fail)
    refine l1Decode_c (some ad) n c xs i _ HN.out HR.out HB.out hm HI.out _ ?_
    rw [HD.out]
    go_wp2_with (first | (go_at_call 204; refine l1Digit_c _ (by omega) (by omega) _ _ ?_))
    go_ret2
    exact K.out _ [60, hexF (b / 16), hexF (b % 16), 62] 4 1 (Below.refl _ _) hL.out rfl hM.out.symm (by simp)
  · have hs : shownL xs i col = ([ch], us) := by unfold shownL; rw [HT.out, if_neg h9, if_neg h32, HD.out, if_neg hu]
    rw [HL.out] at hs
    have hL := Lib.hid (congrArg Prod.fst hs)
    have hM := Lib.hid (congrArg Prod.snd hs)
    clear hs h32
    (change Calls _ _ _ _ (Fin R); go_enter Try.func200, Try.ntmps200)
    go_wp2_with (fail)
    refine l1Decode_c (some ad) n c xs i _ HN.out HR.out HB.out hm HI.out _ ?_
    rw [HD.out]
    go_wp2_with (fail)
    go_ret2
    exact K.out _ [ch] 1 us (Below.refl _ _) hL.out rfl hM.out.symm (by simp)
end Go.Proofs.Ytjnmhpldabbeiaa.M
end
section
namespace Go.Proofs.Ytjnmhpldabbeiaa.M
open Go.RowKit
theorem dec_n {xs : List Int} {i : Nat} (hi : i < xs.length) (h : (dec xs i).2 ≠ 0) : 1 ≤ (dec xs i).2 ∧ (dec xs i).2 ≤ 3 ∧ i + (dec xs i).2.toNat ≤ xs.length := by
  unfold dec at h ⊢
  split
  · simp; omega
  · rename_i h1
    rw [if_neg h1] at h
    split
    · rename_i h2
      have : ¬ xs.length ≤ i + 1 := fun e => by have := more_out e; omega
      simp
      omega
    · rename_i h2
      rw [if_neg h2] at h
      split
      · rename_i h3
        have : ¬ xs.length ≤ i + 2 := fun e => by have := more_out e; omega
        simp
        omega
      · rename_i h3
        rw [if_neg h3] at h
        exact absurd rfl h
theorem shown_n {xs : List Int} {i : Nat} (hi : i < xs.length) (col : Nat) : 1 ≤ (shownL xs i col).2 ∧ (shownL xs i col).2 ≤ 3 ∧ i + (shownL xs i col).2.toNat ≤ xs.length ∧ (shownL xs i col).1.length ≤ 4 := by
  unfold shownL
  split
  · simp; omega
  · split
    · simp; omega
    · split
      · simp; omega
      · rename_i h
        obtain ⟨a, b, c⟩ := dec_n hi h
        simp only [List.length_cons, List.length_nil]
        omega
def cellsAt (xs : List Int) (p : Nat) (col : Nat) : List Cel := (shownL xs p col).1.map fun c => ⟨c, p, (shownL xs p col).2⟩
def cellsR (xs : List Int) (p : Nat) (out : List Cel) : List Cel :=
  if p < xs.length then cellsR xs (p + (shownL xs p out.length).2.toNat) (out ++ cellsAt xs p out.length) else out
termination_by xs.length - p
decreasing_by
  rename_i h
  have := shown_n h out.length
  omega
theorem cellsR_step {xs : List Int} {p : Nat} (h : p < xs.length) (out : List Cel) : cellsR xs p out = cellsR xs (p + (shownL xs p out.length).2.toNat) (out ++ cellsAt xs p out.length) := by
  rw [cellsR, if_pos h]
theorem cellsR_end {xs : List Int} {p : Nat} (h : ¬ p < xs.length) (out : List Cel) : cellsR xs p out = out := by
  rw [cellsR, if_neg h]
def cellsOf (xs : List Int) : List Cel := cellsR xs 0 []
theorem info_cell : (Try.prog.info? 244).map (fun i => (i.zero, i.size, i.bytes)) = some (some (.agg #[.int .i64 0, .int .i64 0, .int .i64 0]), 3, 24) := by kernel_rfl
theorem eCel_one (y : Cel) : ∀ u ∈ eCel y, u.oneCell' = true := by simp [eCel, Value.oneCell']
set_option maxHeartbeats 2000000 in
theorem l1Cells_c (A : Option Addr) (n c : Nat) (xs : List Int) (w : World) (hn : xs.length = n) (hx : Row eU 1 w A xs) (hB : Byt xs) (hm : n ≤ 1048576)
    (R : Ending → World → Prop) (h : ∀ A' c' w', Own eCel 3 244 w' w.heap.size (.slice A' (cellsOf xs).length c') (cellsOf xs) → (cellsOf xs).length ≤ c' → c' ≤ maxLen → Below w.heap.size w w' → R (.returned (.slice A' (cellsOf xs).length c')) w') :
    Calls Try.prog 194 #[.slice A n c] w R := by
  have H := Lib.hid h
  have HX := Lib.hid hx
  have HB := Lib.hid hB
  have HN := Lib.hid hn
  clear h hx hB hn
  (change Calls _ _ _ _ (Fin R); go_enter Try.func194, Try.ntmps194)
  go_wp2_with (fail)
  go_loopg [3, 4] n (fun gk v3 v4 wr => ∃ (p m d : Nat) (B : Option Addr) (out : List Cel), gk = n - p ∧ p ≤ n ∧ v3 = .slice B m d ∧ v4 = .int .i64 p ∧ out.length = m ∧ m ≤ 4 * p ∧ m ≤ d ∧ d ≤ maxLen ∧ Own eCel 3 244 wr w.heap.size (.slice B m d) out ∧ Hid (cellsOf xs = cellsR xs p out) ∧ Below w.heap.size w wr)
  case atStart => exact ⟨0, 0, 0, some ⟨w.heap.size, 0, none⟩, [], by omega, by omega, rfl, rfl, rfl, by omega, Nat.le_refl _, by unfold maxLen; omega, Own.lit w _ [] 0 (Nat.le_refl _) rfl (by unfold maxLen; omega) ⟨rfl, fun i x hx => by simp at hx⟩, rfl, by (repeat' (first | (with_reducible exact Below.refl _ _) | (with_reducible assumption) | (with_reducible refine Below.alloc ?_ ?_ _) | (with_reducible refine bdN ?_ _) | (with_reducible refine Below.drew ?_) | (with_reducible refine Below.setCell ?_ ?_ _) | go_size))⟩
  case round =>
    obtain ⟨p, m, d, B, out, rfl, hp, rfl, rfl, hlen, hm4, hd1, hd2, ho, HE, hG⟩ := hrel
    by_cases hlt : p < n
    · obtain ⟨L, hLe⟩ : ∃ L, (shownL xs p m).1 = L := ⟨_, rfl⟩
      obtain ⟨q, hqe⟩ : ∃ q : Nat, (shownL xs p m).2 = (q : Int) := ⟨(shownL xs p m).2.toNat, by have := shown_n (xs := xs) (i := p) (by rw [HN.out]; exact hlt) m; omega⟩
      obtain ⟨hq1, hq2, hq3, hq4⟩ := shown_n (xs := xs) (i := p) (by rw [HN.out]; exact hlt) m
      rw [hqe] at hq1 hq2 hq3
      rw [HN.out, Int.toNat_natCast] at hq3
      rw [hLe] at hq4
      have HS := Lib.hid (show shownL xs p m = (L, (q : Int)) from Prod.ext hLe hqe)
      have HLe := Lib.hid hlen
      have HO := Lib.hid ho
      clear hLe hqe ho hlen
      go_wp2_with (fail)
      refine l1Shown_c A n c xs p m _ HN.out (HX.out.below hG) HB.out hm hlt (by omega) L q HS.out _ ?_
      intro A1 c1 w1 ho1 hc1 hm1 hb1
      obtain ⟨k, hk⟩ : ∃ k, L.length = k := ⟨_, rfl⟩
      rw [hk] at ho1 hc1 hq4 ⊢
      have HK := Lib.hid hk
      have HO1 := Lib.hid ho1
      have HO2 := Lib.hid (HO.out.below hb1)
      have hG1 := hG.trans (hb1.mono hG.size)
      clear ho1 hk hb1 HO
      go_wp2_with (fail)
      go_loopg [3, 7] k (fun gk v3 v7 wr => ∃ (j m' d' : Nat) (B' : Option Addr) (out' : List Cel), gk = k - j ∧ j ≤ k ∧ v3 = .slice B' m' d' ∧ v7 = .int .i64 j ∧ out'.length = m' ∧ m' = m + j ∧ m' ≤ d' ∧ d' ≤ maxLen ∧ Own eCel 3 244 wr w.heap.size (.slice B' m' d') out' ∧ Own eI 1 2 wr 0 (.slice A1 k c1) L ∧ Hid (out' = out ++ (L.take j).map fun c => (⟨c, p, q⟩ : Cel)) ∧ Below w.heap.size w wr)
      case atStart => exact ⟨0, m, d, B, out, rfl, by omega, rfl, rfl, HLe.out, rfl, hd1, hd2, HO2.out, HO1.out.lower (by omega), by simp [Hid], hG1⟩
      case round =>
        obtain ⟨j, m', d', B', out', rfl, hj, rfl, rfl, hlen', hmj, hd1', hd2', ho', hoL, HF, hG'⟩ := hrel
        by_cases hjk : j < k
        · obtain ⟨x, hx⟩ := get_lt (xs := L) (i := j) (by rw [HK.out]; exact hjk)
          obtain ⟨ad, rfl, a0⟩ := hoL.rowOf.eI hx
          have HO' := Lib.hid ho'
          have HOL := Lib.hid hoL
          have HLen := Lib.hid hlen'
          have HX' := Lib.hid hx
          have hbd : (out'.length + 1) * 24 ≤ 140737488355328 := by rw [hlen']; omega
          have hbd2 : out'.length + 1 ≤ maxLen := by rw [hlen']; unfold maxLen; omega
          have HBD := Lib.hid hbd
          have HBD2 := Lib.hid hbd2
          clear ho' hoL hlen' hx hbd hbd2
          go_wp2_with (first | (at_builtin; refine wp_append1 eCel 3 _ w.heap.size rfl _ _ 234 244 244 rfl Try.underlying234 (.agg #[.int .i64 0, .int .i64 0, .int .i64 0]) 24 info_cell ⟨0, 0, 0⟩ rfl eCel_len (by decide) eCel_one _ out' rfl HO'.out ⟨x, p, q⟩ _ rfl rfl HBD.out HBD2.out hG'.size ?_; intro v' w' ho' hg'))
          go_roundg (k - (j + 1))
          case measure => omega
          case rel =>
            obtain ⟨B2, d2, rfl, h1, h2, _⟩ := ho'.row
            have hll : (out' ++ [(⟨x, p, q⟩ : Cel)]).length = m' + 1 := by rw [List.length_append, HLen.out]; rfl
            rw [hll] at h1 ho' ⊢
            refine ⟨j + 1, m' + 1, d2, B2, _, rfl, by omega, rfl, by go_num, hll, by omega, h1, h2, ho', HOL.out.grown hg' (HOL.out.apart_ty HO'.out (by decide)), ?_, below_own hG' hg' (fun g e => (HO'.out.lt e).1) hG'.size⟩
            simp only [Hid]
            rw [HF.out, List.take_add_one, HX'.out]
            simp
        · have hjk2 : j = k := by omega
          subst hjk2
          have HO' := Lib.hid ho'
          have HLen := Lib.hid hlen'
          clear ho' hoL hlen'
          go_wp2_with (fail)
          go_roundg (n - (p + q))
          case measure => omega
          case rel =>
            refine ⟨p + q, m', d', B', out', rfl, hq3, rfl, by go_num, HLen.out, by omega, hd1', hd2', HO'.out, ?_, hG'⟩
            simp only [Hid]
            rw [HE.out, cellsR_step (by rw [HN.out]; exact hlt), HLe.out, HS.out]
            simp only [Int.toNat_natCast]
            congr 1
            rw [HF.out, cellsAt, HS.out, List.take_of_length_le (by rw [HK.out]; exact Nat.le_refl _)]
    · have hpn : p = n := by omega
      subst hpn
      have hcl : cellsOf xs = out := by rw [HE.out, cellsR_end (by rw [HN.out]; omega)]
      have HO := Lib.hid ho
      have HLe := Lib.hid hlen
      clear ho hlen
      go_wp2_with (fail)
      go_ret
      have := H.out B d _ (by rw [hcl, HLe.out]; exact HO.out) (by rw [hcl, HLe.out]; exact hd1) hd2 hG
      rw [hcl, HLe.out] at this
      exact this
end Go.Proofs.Ytjnmhpldabbeiaa.M
end
section
namespace Go.Proofs.Ytjnmhpldabbeiaa.M
open Go.RowKit
set_option maxRecDepth 20000 in
set_option maxHeartbeats 4000000 in
theorem DecodeAt_1 (A : Option Addr) (n c : Nat) (xs : List Int) (i : Nat) (w : World) (hn : xs.length = n) (hx : Row eU 1 w A xs) (hB : Byt xs) (hc : n ≤ c) (hm : n ≤ 1048576) (hi : i + 0 < n) (hlt : bt xs i < 192)
    (R : Ending → World → Prop) (h : ∀ w', Below w.heap.size w w' → R (.returned (.agg #[.int .i64 (decR xs i).1, .int .i64 (decR xs i).2.1, .int .i64 (decR xs i).2.2])) w') :
    Calls Try.prog 201 #[.slice A n c, .int .i64 i] w R := by
  have H := Lib.hid h
  clear h
  obtain ⟨b, hb⟩ := get_lt (xs := xs) (i := i) (by omega)
  obtain ⟨ad, rfl, a0⟩ := hx.eU hb
  obtain ⟨hb1, hb2⟩ := hB i b hb
  have hbt : bt xs i = b := by simp [bt, hb]

  rw [hbt] at hlt
  have HD := Lib.hid (decR_one hbt hb1 hlt)
  have q1 : inB i 0 ((n : Int) - 1) = true := by simp [inB]; omega
  obtain ⟨W, hW⟩ : ∃ W, W = w.alloc (Obj.cells #[.int .i64 0, .int .i64 0, .int .i64 0] 246) := ⟨_, rfl⟩
  obtain ⟨b1, f1, hz, G0⟩ := box1 _ _ _ W hW
  have HW := Lib.hid hW
  have GG : Below w.heap.size w W := by rw [hW]; (repeat' (first | (with_reducible exact Below.refl _ _) | (with_reducible assumption) | (with_reducible refine Below.alloc ?_ ?_ _) | (with_reducible refine bdN ?_ _) | (with_reducible refine Below.drew ?_) | (with_reducible refine Below.setCell ?_ ?_ _) | go_size))
  replace a0 := cell_below GG a0

  have htk : (xs.drop i).take 1 = [b] := by rw [drop_cons hb]; rfl
  have hsub : Row eU 1 W (some (ad.add i)) [b] := by
    have := (hx.below GG).sub i 1
    rwa [htk, Nat.mul_one] at this
  have hc64 := Lib.hid (show ∀ w' : World, (∀ p, (W.cell? p).isSome = true → w'.cell? p = W.cell? p) → ∀ cap, (convert 101 9 (.slice (some (ad.add i)) 1 cap)).run Try.prog w' = .ok (.string (strOfNums [b])) w' from fun w' hk cap => conv_row _ 1 cap [b] w' rfl (hsub.keeps hk) (by decide))
  have hsubB : Byt [b] := fun j y hj => hB (i + j) y (by have := hj; rw [← htk, List.getElem?_take] at this; split at this; rwa [List.getElem?_drop] at this; cases this)
  have i1 : (1 : Int) ≤ ((n - i : Nat) : Int) := by omega
  have i2 : (1 : Int) ≤ ((c - i : Nat) : Int) := by omega
  clear hbt hx hB hb hn hW GG hsub htk 
  have q2 : isChr b = true := by simp [isChr, inB]; omega
  have HT := Lib.hid (show (!(strOfNums (enc b)).toList == (strOfNums [b]).toList) = false → decR xs i = (0, b, 1) from fun e => by rw [HD.out, if_pos (strNe_f (enc_byt (by omega) (by omega)) (fun j y hj => hsubB j y hj) e)])
  have HF := Lib.hid (show (!(strOfNums (enc b)).toList == (strOfNums [b]).toList) = true → decR xs i = (5, 0, 0) from fun e => by rw [HD.out, if_neg (strNe_t e)])
  clear hsubB
  (change Calls _ _ _ _ (Fin R); go_enter Try.func201, Try.ntmps201)
  go_wp2_with (fail)
  rw [← HW.out]
  refine within_c _ _ _ _ q1 _ _ ?_
  go_wp2_with (fail)
  all_goals
    refine wp_loop_rounds 1 ?_
    rw [rounds_succ]
    go_wp2_with (fail)
    have e0 := hc64.out W.drew (keeps_refl _)
    go_region_with (first | (go_at_call 205; (with_reducible refine isChar_c _ _ q2 _ _ ?_)) | (go_at_call 206; refine encoded_c b (by omega) (by omega) _ _ ?_; intro A' c' w1 ho1 hc1 hm1 hbe; have ee := conv_row A' _ c' _ w1 rfl ho1.rowOf (enc_pos b); have e2 := hc64.out _ (keeps_below (below_drew hbe)); have b2 := blk_keep b1 (by omega) (below_drew hbe); have f2 := frz_keep f1 (by omega) (below_drew hbe); have g2 := G0.trans ((below_drew hbe).mono G0.size); clear hbe ho1))
    all_goals clear e0
    all_goals go_wp2
    all_goals (refine bodyPost_ret (by simp [results, Try.results201, go_sem, b2]; try rfl) rfl ?_)
    all_goals (refine retV (H.out _ (by (repeat' (first | (with_reducible exact Below.refl _ _) | (with_reducible assumption) | (with_reducible refine Below.alloc ?_ ?_ _) | (with_reducible refine bdN ?_ _) | (with_reducible refine Below.drew ?_) | (with_reducible refine Below.setCell ?_ ?_ _) | go_size)))) ?_; first | rw [HT.out (by assumption)] | rw [HF.out (by assumption)])
end Go.Proofs.Ytjnmhpldabbeiaa.M
end
section
namespace Go.Proofs.Ytjnmhpldabbeiaa.M
open Go.RowKit
set_option maxRecDepth 20000 in
set_option maxHeartbeats 4000000 in
theorem DecodeAt_2 (A : Option Addr) (n c : Nat) (xs : List Int) (i : Nat) (w : World) (hn : xs.length = n) (hx : Row eU 1 w A xs) (hB : Byt xs) (hc : n ≤ c) (hm : n ≤ 1048576) (hi : i + 1 < n) (hlt : bt xs i < 224) (hge : 192 ≤ bt xs i)
    (R : Ending → World → Prop) (h : ∀ w', Below w.heap.size w w' → R (.returned (.agg #[.int .i64 (decR xs i).1, .int .i64 (decR xs i).2.1, .int .i64 (decR xs i).2.2])) w') :
    Calls Try.prog 201 #[.slice A n c, .int .i64 i] w R := by
  have H := Lib.hid h
  clear h
  obtain ⟨b, hb⟩ := get_lt (xs := xs) (i := i) (by omega)
  obtain ⟨ad, rfl, a0⟩ := hx.eU hb
  obtain ⟨hb1, hb2⟩ := hB i b hb
  have hbt : bt xs i = b := by simp [bt, hb]
  obtain ⟨x, hxx⟩ := get_lt (xs := xs) (i := i + 1) (by omega)
  obtain ⟨ad', e', a1⟩ := hx.eU hxx
  obtain rfl := Option.some.inj e'
  clear e'
  obtain ⟨hx1, hx2⟩ := hB (i + 1) x hxx
  have hxt : bt xs (i + 1) = x := by simp [bt, hxx]
  rw [hbt] at hge
  rw [hbt] at hlt
  have HD := Lib.hid (decR_two hbt hxt hge hlt hx1 hx2 (by omega))
  have q1 : inB i 0 ((n : Int) - 1) = true := by simp [inB]; omega
  obtain ⟨W, hW⟩ : ∃ W, W = w.alloc (Obj.cells #[.int .i64 0, .int .i64 0, .int .i64 0] 246) := ⟨_, rfl⟩
  obtain ⟨b1, f1, hz, G0⟩ := box1 _ _ _ W hW
  have HW := Lib.hid hW
  have GG : Below w.heap.size w W := by rw [hW]; (repeat' (first | (with_reducible exact Below.refl _ _) | (with_reducible assumption) | (with_reducible refine Below.alloc ?_ ?_ _) | (with_reducible refine bdN ?_ _) | (with_reducible refine Below.drew ?_) | (with_reducible refine Below.setCell ?_ ?_ _) | go_size))
  replace a0 := cell_below GG a0
  replace a1 := cell_below GG a1
  rw [show ad.add (i + 1) = ⟨(ad.add i).block, (ad.add i).off + 1, none⟩ by rw [add_succ]; unfold Addr.add; split <;> simp_all; try omega] at a1
  have m1 : bits .and .u8 x 63 = x % 64 := and63_u8 x hx1 hx2
  have htk : (xs.drop i).take 2 = [b, x] := by rw [drop_cons hb, drop_cons hxx]; rfl
  have hsub : Row eU 1 W (some (ad.add i)) [b, x] := by
    have := (hx.below GG).sub i 2
    rwa [htk, Nat.mul_one] at this
  have hc64 := Lib.hid (show ∀ w' : World, (∀ p, (W.cell? p).isSome = true → w'.cell? p = W.cell? p) → ∀ cap, (convert 101 9 (.slice (some (ad.add i)) 2 cap)).run Try.prog w' = .ok (.string (strOfNums [b, x])) w' from fun w' hk cap => conv_row _ 2 cap [b, x] w' rfl (hsub.keeps hk) (by decide))
  have hsubB : Byt [b, x] := fun j y hj => hB (i + j) y (by have := hj; rw [← htk, List.getElem?_take] at this; split at this; rwa [List.getElem?_drop] at this; cases this)
  have i1 : (2 : Int) ≤ ((n - i : Nat) : Int) := by omega
  have i2 : (2 : Int) ≤ ((c - i : Nat) : Int) := by omega
  clear hbt hx hB hb hn hW GG hsub htk hxt hxx
  have q2 : isChr ((b - 192) * 64 + x % 64) = true := by simp [isChr, inB]; omega
  have HT := Lib.hid (show (!(strOfNums (enc ((b - 192) * 64 + x % 64))).toList == (strOfNums [b, x]).toList) = false → decR xs i = (0, ((b - 192) * 64 + x % 64), 2) from fun e => by rw [HD.out, if_pos (strNe_f (enc_byt (by omega) (by omega)) (fun j y hj => hsubB j y hj) e)])
  have HF := Lib.hid (show (!(strOfNums (enc ((b - 192) * 64 + x % 64))).toList == (strOfNums [b, x]).toList) = true → decR xs i = (5, 0, 0) from fun e => by rw [HD.out, if_neg (strNe_t e)])
  clear hsubB
  (change Calls _ _ _ _ (Fin R); go_enter Try.func201, Try.ntmps201)
  go_wp2_with (fail)
  rw [← HW.out]
  refine within_c _ _ _ _ q1 _ _ ?_
  go_wp2_with (fail)
  refine wp_loop_rounds 2 ?_
  rw [rounds_succ]
  go_wp2_with (fail)
  rw [rounds_succ]
  go_wp2_with (fail)
  have e0 := hc64.out W.drew (keeps_refl _)
  go_region_with (first | (go_at_call 205; (with_reducible refine isChar_c _ _ q2 _ _ ?_)) | (go_at_call 206; refine encoded_c ((b - 192) * 64 + x % 64) (by omega) (by omega) _ _ ?_; intro A' c' w1 ho1 hc1 hm1 hbe; have ee := conv_row A' _ c' _ w1 rfl ho1.rowOf (enc_pos ((b - 192) * 64 + x % 64)); have e2 := hc64.out _ (keeps_below (below_drew hbe)); have b2 := blk_keep b1 (by omega) (below_drew hbe); have f2 := frz_keep f1 (by omega) (below_drew hbe); have g2 := G0.trans ((below_drew hbe).mono G0.size); clear hbe ho1))
  all_goals clear e0
  all_goals go_wp2
  all_goals (refine bodyPost_ret (by simp [results, Try.results201, go_sem, b2]; try rfl) rfl ?_)
  all_goals (refine retV (H.out _ (by (repeat' (first | (with_reducible exact Below.refl _ _) | (with_reducible assumption) | (with_reducible refine Below.alloc ?_ ?_ _) | (with_reducible refine bdN ?_ _) | (with_reducible refine Below.drew ?_) | (with_reducible refine Below.setCell ?_ ?_ _) | go_size)))) ?_; first | rw [HT.out (by assumption)] | rw [HF.out (by assumption)])
end Go.Proofs.Ytjnmhpldabbeiaa.M
end
section
namespace Go.Proofs.Ytjnmhpldabbeiaa.M
open Go.RowKit
set_option maxRecDepth 20000 in
set_option maxHeartbeats 4000000 in
theorem DecodeAt_3 (A : Option Addr) (n c : Nat) (xs : List Int) (i : Nat) (w : World) (hn : xs.length = n) (hx : Row eU 1 w A xs) (hB : Byt xs) (hc : n ≤ c) (hm : n ≤ 1048576) (hi : i + 2 < n) (hlt : 224 ≤ bt xs i)
    (R : Ending → World → Prop) (h : ∀ w', Below w.heap.size w w' → R (.returned (.agg #[.int .i64 (decR xs i).1, .int .i64 (decR xs i).2.1, .int .i64 (decR xs i).2.2])) w') :
    Calls Try.prog 201 #[.slice A n c, .int .i64 i] w R := by
  have H := Lib.hid h
  clear h
  obtain ⟨b, hb⟩ := get_lt (xs := xs) (i := i) (by omega)
  obtain ⟨ad, rfl, a0⟩ := hx.eU hb
  obtain ⟨hb1, hb2⟩ := hB i b hb
  have hbt : bt xs i = b := by simp [bt, hb]
  obtain ⟨x, hxx⟩ := get_lt (xs := xs) (i := i + 1) (by omega)
  obtain ⟨ad', e', a1⟩ := hx.eU hxx
  obtain rfl := Option.some.inj e'
  clear e'
  obtain ⟨hx1, hx2⟩ := hB (i + 1) x hxx
  have hxt : bt xs (i + 1) = x := by simp [bt, hxx]
  obtain ⟨y, hyy⟩ := get_lt (xs := xs) (i := i + 2) (by omega)
  obtain ⟨ad', e', a2⟩ := hx.eU hyy
  obtain rfl := Option.some.inj e'
  clear e'
  obtain ⟨hy1, hy2⟩ := hB (i + 2) y hyy
  have hyt : bt xs (i + 2) = y := by simp [bt, hyy]
  rw [hbt] at hlt
  have HD := Lib.hid (decR_three hbt hxt hyt hlt hx1 hx2 hy1 hy2 (by omega))
  have q1 : inB i 0 ((n : Int) - 1) = true := by simp [inB]; omega
  obtain ⟨W, hW⟩ : ∃ W, W = w.alloc (Obj.cells #[.int .i64 0, .int .i64 0, .int .i64 0] 246) := ⟨_, rfl⟩
  obtain ⟨b1, f1, hz, G0⟩ := box1 _ _ _ W hW
  have HW := Lib.hid hW
  have GG : Below w.heap.size w W := by rw [hW]; (repeat' (first | (with_reducible exact Below.refl _ _) | (with_reducible assumption) | (with_reducible refine Below.alloc ?_ ?_ _) | (with_reducible refine bdN ?_ _) | (with_reducible refine Below.drew ?_) | (with_reducible refine Below.setCell ?_ ?_ _) | go_size))
  replace a0 := cell_below GG a0
  replace a1 := cell_below GG a1
  replace a2 := cell_below GG a2
  rw [show ad.add (i + 1) = ⟨(ad.add i).block, (ad.add i).off + 1, none⟩ by rw [add_succ]; unfold Addr.add; split <;> simp_all; try omega] at a1
  rw [show ad.add (i + 2) = ⟨(ad.add i).block, (ad.add i).off + 2, none⟩ by rw [add_succ]; unfold Addr.add; split <;> simp_all; try omega] at a2
  have m1 : bits .and .u8 x 63 = x % 64 := and63_u8 x hx1 hx2
  have m2 : bits .and .u8 y 63 = y % 64 := and63_u8 y hy1 hy2
  have htk : (xs.drop i).take 3 = [b, x, y] := by rw [drop_cons hb, drop_cons hxx, drop_cons hyy]; rfl
  have hsub : Row eU 1 W (some (ad.add i)) [b, x, y] := by
    have := (hx.below GG).sub i 3
    rwa [htk, Nat.mul_one] at this
  have hc64 := Lib.hid (show ∀ w' : World, (∀ p, (W.cell? p).isSome = true → w'.cell? p = W.cell? p) → ∀ cap, (convert 101 9 (.slice (some (ad.add i)) 3 cap)).run Try.prog w' = .ok (.string (strOfNums [b, x, y])) w' from fun w' hk cap => conv_row _ 3 cap [b, x, y] w' rfl (hsub.keeps hk) (by decide))
  have hsubB : Byt [b, x, y] := fun j y hj => hB (i + j) y (by have := hj; rw [← htk, List.getElem?_take] at this; split at this; rwa [List.getElem?_drop] at this; cases this)
  have i1 : (3 : Int) ≤ ((n - i : Nat) : Int) := by omega
  have i2 : (3 : Int) ≤ ((c - i : Nat) : Int) := by omega
  clear hbt hx hB hb hn hW GG hsub htk hxt hxx hyt hyy
  have HFC := Lib.hid (show isChr (((b - 224) * 64 + x % 64) * 64 + y % 64) = false → decR xs i = (5, 0, 0) from fun e => by rw [HD.out, if_neg (fun e2 => by rw [e] at e2; cases e2.1)])
  rcases q2 : isChr (((b - 224) * 64 + x % 64) * 64 + y % 64) with _ | _
  · (change Calls _ _ _ _ (Fin R); go_enter Try.func201, Try.ntmps201)
    go_wp2_with (fail)
    rw [← HW.out]
    refine within_c _ _ _ _ q1 _ _ ?_
    go_wp2_with (fail)
    refine wp_loop_rounds 3 ?_
    rw [rounds_succ]
    go_wp2_with (fail)
    rw [rounds_succ]
    go_wp2_with (fail)
    rw [rounds_succ]
    go_wp2_with (fail)
    go_quiet ((go_at_call 205; (with_reducible exact Calls.quiet_of_same (isChar_q _ _ q2 _))))
    go_wp2
    (refine bodyPost_ret (by simp [results, Try.results201, go_sem, b1]; try rfl) rfl ?_)
    refine retV (H.out _ (by (repeat' (first | (with_reducible exact Below.refl _ _) | (with_reducible assumption) | (with_reducible refine Below.alloc ?_ ?_ _) | (with_reducible refine bdN ?_ _) | (with_reducible refine Below.drew ?_) | (with_reducible refine Below.setCell ?_ ?_ _) | go_size)))) ?_
    rw [HFC.out q2]
  have hF : ((b - 224) * 64 + x % 64) * 64 + y % 64 ≤ 65535 := by
    have := q2
    unfold isChr inB at this
    simp only [Bool.and_eq_true, decide_eq_true_eq] at this
    exact this.1.2
  have HFF := Lib.hid hF
  have HT := Lib.hid (show (!(strOfNums (enc (((b - 224) * 64 + x % 64) * 64 + y % 64))).toList == (strOfNums [b, x, y]).toList) = false → decR xs i = (0, (((b - 224) * 64 + x % 64) * 64 + y % 64), 3) from fun e => by rw [HD.out, if_pos ⟨q2, (strNe_f (enc_byt (by omega) HFF.out) (fun j y hj => hsubB j y hj) e)⟩])
  have HF := Lib.hid (show (!(strOfNums (enc (((b - 224) * 64 + x % 64) * 64 + y % 64))).toList == (strOfNums [b, x, y]).toList) = true → decR xs i = (5, 0, 0) from fun e => by rw [HD.out, if_neg (fun e2 => strNe_t e e2.2)])
  clear hsubB
  (change Calls _ _ _ _ (Fin R); go_enter Try.func201, Try.ntmps201)
  go_wp2_with (fail)
  rw [← HW.out]
  refine within_c _ _ _ _ q1 _ _ ?_
  go_wp2_with (fail)
  refine wp_loop_rounds 3 ?_
  rw [rounds_succ]
  go_wp2_with (fail)
  rw [rounds_succ]
  go_wp2_with (fail)
  rw [rounds_succ]
  go_wp2_with (fail)
  have e0 := hc64.out W.drew (keeps_refl _)
  go_region_with (first | (go_at_call 205; (with_reducible refine isChar_c _ _ q2 _ _ ?_)) | (go_at_call 206; refine encoded_c (((b - 224) * 64 + x % 64) * 64 + y % 64) (by omega) HFF.out _ _ ?_; intro A' c' w1 ho1 hc1 hm1 hbe; have ee := conv_row A' _ c' _ w1 rfl ho1.rowOf (enc_pos (((b - 224) * 64 + x % 64) * 64 + y % 64)); have e2 := hc64.out _ (keeps_below (below_drew hbe)); have b2 := blk_keep b1 (by omega) (below_drew hbe); have f2 := frz_keep f1 (by omega) (below_drew hbe); have g2 := G0.trans ((below_drew hbe).mono G0.size); clear hbe ho1))
  all_goals clear e0
  all_goals go_wp2
  all_goals (refine bodyPost_ret (by simp [results, Try.results201, go_sem, b2]; try rfl) rfl ?_)
  all_goals (refine retV (H.out _ (by (repeat' (first | (with_reducible exact Below.refl _ _) | (with_reducible assumption) | (with_reducible refine Below.alloc ?_ ?_ _) | (with_reducible refine bdN ?_ _) | (with_reducible refine Below.drew ?_) | (with_reducible refine Below.setCell ?_ ?_ _) | go_size)))) ?_; first | rw [HT.out (by assumption)] | rw [HF.out (by assumption)])
end Go.Proofs.Ytjnmhpldabbeiaa.M
end
section
namespace Go.Proofs.Ytjnmhpldabbeiaa.M
open Go.RowKit
set_option maxHeartbeats 1000000 in
theorem DecodeAt_short (A : Option Addr) (n c : Nat) (xs : List Int) (i : Nat) (w : World) (hn : xs.length = n) (hx : Row eU 1 w A xs) (hB : Byt xs) (hc : n ≤ c) (hm : n ≤ 1048576) (hi : i < n)
    (hs : (192 ≤ bt xs i ∧ bt xs i < 224 ∧ n ≤ i + 1) ∨ (224 ≤ bt xs i ∧ n ≤ i + 2))
    (R : Ending → World → Prop) (h : ∀ w', Below w.heap.size w w' → R (.returned (.agg #[.int .i64 (decR xs i).1, .int .i64 (decR xs i).2.1, .int .i64 (decR xs i).2.2])) w') :
    Calls Try.prog 201 #[.slice A n c, .int .i64 i] w R := by
  have hd : decR xs i = (5, 0, 0) := by
    rcases hs with ⟨h1, h2, h3⟩ | ⟨h1, h3⟩
    · exact decR_two_short rfl h1 h2 (by omega)
    · exact decR_three_short rfl h1 (by omega)
  rw [hd] at h
  have H := Lib.hid h
  clear h hd
  obtain ⟨b, hb⟩ := get_lt (xs := xs) (i := i) (by omega)
  obtain ⟨ad, rfl, a0⟩ := hx.eU hb
  obtain ⟨hb1, hb2⟩ := hB i b hb
  have hbt : bt xs i = b := by simp [bt, hb]
  rw [hbt] at hs
  have q1 : inB i 0 ((n : Int) - 1) = true := by simp [inB]; omega
  obtain ⟨W, hW⟩ : ∃ W, W = w.alloc (Obj.cells #[.int .i64 0, .int .i64 0, .int .i64 0] 246) := ⟨_, rfl⟩
  obtain ⟨b1, f1, hz, G0⟩ := box1 _ _ _ W hW
  have HW := Lib.hid hW
  have GG : Below w.heap.size w W := by rw [hW]; (repeat' (first | (with_reducible exact Below.refl _ _) | (with_reducible assumption) | (with_reducible refine Below.alloc ?_ ?_ _) | (with_reducible refine bdN ?_ _) | (with_reducible refine Below.drew ?_) | (with_reducible refine Below.setCell ?_ ?_ _) | go_size))
  replace a0 := cell_below GG a0
  clear hbt hx hB hb hn hW GG
  have i0 : 1 ≤ n - i := by omega
  rcases hs with ⟨h1, h2, h3⟩ | ⟨h1, h3⟩
  · have i1 : n - i = 1 := by omega
    (change Calls _ _ _ _ (Fin R); go_enter Try.func201, Try.ntmps201)
    go_wp2_with (fail)
    rw [← HW.out]
    refine within_c _ _ _ _ q1 _ _ ?_
    go_wp2_with (fail)
    (refine bodyPost_ret (by simp [results, Try.results201, go_sem, b1]; try rfl) rfl ?_)
    exact H.out _ (by (repeat' (first | (with_reducible exact Below.refl _ _) | (with_reducible assumption) | (with_reducible refine Below.alloc ?_ ?_ _) | (with_reducible refine bdN ?_ _) | (with_reducible refine Below.drew ?_) | (with_reducible refine Below.setCell ?_ ?_ _) | go_size)))
  · have i1 : n - i ≤ 2 := by omega
    (change Calls _ _ _ _ (Fin R); go_enter Try.func201, Try.ntmps201)
    go_wp2_with (fail)
    rw [← HW.out]
    refine within_c _ _ _ _ q1 _ _ ?_
    go_wp2_with (fail)
    (refine bodyPost_ret (by simp [results, Try.results201, go_sem, b1]; try rfl) rfl ?_)
    exact H.out _ (by (repeat' (first | (with_reducible exact Below.refl _ _) | (with_reducible assumption) | (with_reducible refine Below.alloc ?_ ?_ _) | (with_reducible refine bdN ?_ _) | (with_reducible refine Below.drew ?_) | (with_reducible refine Below.setCell ?_ ?_ _) | go_size)))
theorem DecodeAt_c (A : Option Addr) (n c : Nat) (xs : List Int) (i : Nat) (w : World) (hn : xs.length = n) (hx : Row eU 1 w A xs) (hB : Byt xs) (hc : n ≤ c) (hm : n ≤ 1048576) (hi : i < n)
    (R : Ending → World → Prop) (h : ∀ w', Below w.heap.size w w' → R (.returned (.agg #[.int .i64 (decR xs i).1, .int .i64 (decR xs i).2.1, .int .i64 (decR xs i).2.2])) w') :
    Calls Try.prog 201 #[.slice A n c, .int .i64 i] w R := by
  by_cases h1 : bt xs i < 192
  · exact DecodeAt_1 A n c xs i w hn hx hB hc hm hi h1 R h
  by_cases h2 : bt xs i < 224
  · by_cases h3 : i + 1 < n
    · exact DecodeAt_2 A n c xs i w hn hx hB hc hm h3 h2 (by omega) R h
    · exact DecodeAt_short A n c xs i w hn hx hB hc hm hi (.inl ⟨by omega, h2, by omega⟩) R h
  · by_cases h3 : i + 2 < n
    · exact DecodeAt_3 A n c xs i w hn hx hB hc hm h3 (by omega) R h
    · exact DecodeAt_short A n c xs i w hn hx hB hc hm hi (.inr ⟨by omega, by omega⟩) R h
end Go.Proofs.Ytjnmhpldabbeiaa.M
end
section
namespace Go.Proofs.Ytjnmhpldabbeiaa.M
open Go.RowKit
set_option maxRecDepth 20000 in
set_option maxHeartbeats 4000000 in
theorem cells_c (A : Option Addr) (n c : Nat) (xs : List Int) (w : World) (hn : xs.length = n) (hx : Row eU 1 w A xs) (hB : Byt xs) (hc : n ≤ c) (hm : n ≤ 1048576)
    (R : Ending → World → Prop) (h : ∀ A' c' w', Own eCel 3 244 w' w.heap.size (.slice A' (cellsOf xs).length c') (cellsOf xs) → (cellsOf xs).length ≤ c' → c' ≤ maxLen → Below w.heap.size w w' → R (.returned (.slice A' (cellsOf xs).length c')) w') :
    Calls Try.prog 196 #[.slice A n c] w R := by
  have H := Lib.hid h
  have HX := Lib.hid hx
  have HB := Lib.hid hB
  have HN := Lib.hid hn
  clear h hx hB hn
  (change Calls _ _ _ _ (Fin R); go_enter Try.func196, Try.ntmps196)
  go_wp2_with (fail)
  go_loopg [3, 4] n (fun gk v3 v4 wr => ∃ (p m d : Nat) (B : Option Addr) (out : List Cel), gk = n - p ∧ p ≤ n ∧ v3 = .slice B m d ∧ v4 = .int .i64 p ∧ out.length = m ∧ m ≤ 4 * p ∧ m ≤ d ∧ d ≤ maxLen ∧ Own eCel 3 244 wr w.heap.size (.slice B m d) out ∧ Hid (cellsOf xs = cellsR xs p out) ∧ Below w.heap.size w wr)
  case atStart => exact ⟨0, 0, 0, some ⟨w.heap.size, 0, none⟩, [], by omega, by omega, rfl, rfl, rfl, by omega, Nat.le_refl _, by unfold maxLen; omega, Own.lit w _ [] 0 (Nat.le_refl _) rfl (by unfold maxLen; omega) ⟨rfl, fun i x hx => by simp at hx⟩, rfl, by (repeat' (first | (with_reducible exact Below.refl _ _) | (with_reducible assumption) | (with_reducible refine Below.alloc ?_ ?_ _) | (with_reducible refine bdN ?_ _) | (with_reducible refine Below.drew ?_) | (with_reducible refine Below.setCell ?_ ?_ _) | go_size))⟩
  case round =>
    obtain ⟨p, m, d, B, out, rfl, hp, rfl, rfl, hlen, hm4, hd1, hd2, ho, HE, hG⟩ := hrel
    by_cases hlt : p < n
    · obtain ⟨L, hLe⟩ : ∃ L, (shownL xs p m).1 = L := ⟨_, rfl⟩
      obtain ⟨q, hqe⟩ : ∃ q : Nat, (shownL xs p m).2 = (q : Int) := ⟨(shownL xs p m).2.toNat, by have := shown_n (xs := xs) (i := p) (by rw [HN.out]; exact hlt) m; omega⟩
      obtain ⟨hq1, hq2, hq3, hq4⟩ := shown_n (xs := xs) (i := p) (by rw [HN.out]; exact hlt) m
      rw [hqe] at hq1 hq2 hq3
      rw [HN.out, Int.toNat_natCast] at hq3
      rw [hLe] at hq4
      obtain ⟨k, hk⟩ : ∃ k, L.length = k := ⟨_, rfl⟩
      rw [hk] at hq4
      have HK := Lib.hid hk
      have HS := Lib.hid (show shownL xs p m = (L, (q : Int)) from Prod.ext hLe hqe)
      have HLe := Lib.hid hlen
      have HO := Lib.hid ho
      obtain ⟨b, hb⟩ := get_lt (xs := xs) (i := p) (by rw [HN.out]; exact hlt)
      obtain ⟨ad, rfl, a0⟩ := HX.out.eU hb
      obtain ⟨hb1, hb2⟩ := HB.out p b hb
      have HBT := Lib.hid (show bt xs p = b by simp [bt, hb])
      replace a0 := cell_below hG a0
      obtain ⟨W, hW⟩ : ∃ W, W = wr.alloc (Obj.cells #[] 2) := ⟨_, rfl⟩
      obtain ⟨bz, hbz⟩ : ∃ bz, bz = wr.heap.size := ⟨_, rfl⟩
      have hbw : w.heap.size ≤ bz := by rw [hbz]; exact hG.size
      have GW : Below wr.heap.size wr W := by rw [hW]; (repeat' (first | (with_reducible exact Below.refl _ _) | (with_reducible assumption) | (with_reducible refine Below.alloc ?_ ?_ _) | (with_reducible refine bdN ?_ _) | (with_reducible refine Below.drew ?_) | (with_reducible refine Below.setCell ?_ ?_ _) | go_size))
      have HOW := Lib.hid (show Own eI 1 2 W bz (.slice (some ⟨wr.heap.size, 0, none⟩) 0 0) [] by rw [hW, hbz]; exact Own.lit wr _ [] 0 (Nat.le_refl _) rfl (by unfold maxLen; omega) ⟨rfl, fun i x hx => by simp at hx⟩)
      have HOC := Lib.hid (HO.out.below GW)
      have hGW := hG.trans (GW.mono hG.size)
      have HW := Lib.hid hW
      obtain ⟨cd, chh, us, hD⟩ : ∃ cd chh us, decR xs p = (cd, chh, us) := ⟨_, _, _, rfl⟩
      have HD := Lib.hid hD
      clear hLe hqe ho hlen hk hb hW hD
      go_wp2_with (fail)
      rw [← HW.out]
      refine DecodeAt_c (some ad) n c xs p _ HN.out (HX.out.below hGW) HB.out hc hm hlt _ ?_
      intro w1 hb1
      rw [HD.out]
      have hG1 := hGW.trans (hb1.mono hGW.size)
      obtain ⟨W1, hW1⟩ : ∃ W1, W1 = w1.alloc (Obj.cells #[.int .i64 cd, .int .i64 chh, .int .i64 us] 246) := ⟨_, rfl⟩
      obtain ⟨c1, f1, hz1, GW1⟩ := box1 _ _ _ W1 hW1
      have hG2 := hG1.trans (GW1.mono hG1.size)
      have HO2 := Lib.hid ((HOC.out.below hb1).below GW1)
      have HOW2 := Lib.hid ((HOW.out.below hb1).below GW1)
      have HW1 := Lib.hid hW1
      have hzz : bz ≤ W1.heap.size := by rw [hbz]; have := GW.size; have := hb1.size; omega
      clear hW1 hb1 f1 hbz
      by_cases h9 : b = 9
      · subst h9
        have hs : shownL xs p m = (List.replicate (4 - m % 4) 32, 1) := by unfold shownL; rw [HBT.out, if_pos rfl]
        rw [HS.out] at hs
        obtain ⟨hL', hq'⟩ := Prod.mk.inj hs
        have hq1' : q = 1 := by omega
        have HS1 := Lib.hid (show shownL xs p m = (L, 1) by rw [HS.out, hq1']; rfl)
        have hk' : k = 4 - m % 4 := by rw [← HK.out, hL', List.length_replicate]
        have HL' := Lib.hid hL'
        have HK' := Lib.hid hk'
        clear hs hL' hq'
        subst hq1'
        have hk1 : 1 ≤ k := by omega
        clear hk' HS
        have HS := HS1
        clear HS1
        go_wp2_with (fail)
        go_loopg [7] k (fun gk v7 ws => ∃ (j d7 : Nat) (B7 : Option Addr), gk = k - j ∧ j ≤ k ∧ v7 = .slice B7 j d7 ∧ j ≤ d7 ∧ d7 ≤ maxLen ∧ Own eI 1 2 ws bz (.slice B7 j d7) (List.replicate j 32) ∧ Own eCel 3 244 ws w.heap.size (.slice B m d) out ∧ bz ≤ ws.heap.size ∧ Below w.heap.size w ws)
        case atStart => rw [← HW1.out]; exact ⟨0, 0, some ⟨wr.heap.size, 0, none⟩, by omega, by omega, rfl, by omega, by unfold maxLen; omega, HOW2.out, HO2.out, hzz, hG2⟩
        case round =>
          obtain ⟨j, d7, B7, rfl, hj, rfl, hd7, hd72, hoI, hoC, hzj, hG1⟩ := hrel
          have HOI := Lib.hid hoI
          have HOC' := Lib.hid hoC
          clear hoI hoC
          by_cases hjk : j < k
          · rcases Nat.eq_zero_or_pos j with rfl | hjp
            · go_wp2_with (first | (at_builtin; refine wp_append1 eI 1 _ bz rfl _ _ 49 2 2 rfl Try.underlying49 (.int .i64 0) 8 info_i64 0 rfl eI_len (by decide) eI_one _ (List.replicate 0 32) rfl HOI.out 32 _ rfl rfl (by decide) (by decide) hzj ?_; intro v' w' ho' hg'))
              go_roundg (k - (0 + 1))
              case measure => omega
              case rel =>
                rw [show List.replicate 0 (32 : Int) ++ [32] = List.replicate (0 + 1) 32 from rfl] at ho'
                obtain ⟨B', d', rfl, h1, h2, _⟩ := ho'.row
                rw [List.length_replicate] at h1 ho' ⊢
                exact ⟨0 + 1, d', B', rfl, by omega, rfl, h1, h2, ho', HOC'.out.grown hg' (HOC'.out.apart_ty HOI.out (by decide)), Nat.le_trans hzj hg'.size, below_own hG1 hg' (fun g e => Nat.le_trans hbw (HOI.out.lt e).1) hG1.size⟩
            · have hgd : ¬ ((m : Int) + (j : Int)) % 4 = 0 := by have := HK'.out; omega
              have hgd2 : ((j : Int) == 0) = false := by simp; omega
              have hgd3 : (((m : Int) + (j : Int)) % 4 != 0) = true := by simp; omega
              go_wp2_with (first | (at_builtin; (refine wp_append1 eI 1 _ bz rfl _ _ 49 2 2 rfl Try.underlying49 (.int .i64 0) 8 info_i64 0 rfl eI_len (by decide) eI_one _ (List.replicate j 32) rfl HOI.out 32 _ rfl rfl (by simp; omega) (by simp; unfold maxLen; omega) hzj ?_); intro v' w' ho' hg'))
              go_roundg (k - (j + 1))
              case measure => omega
              case rel =>
                rw [← List.replicate_succ'] at ho'
                obtain ⟨B', d', rfl, h1, h2, _⟩ := ho'.row
                rw [List.length_replicate] at h1 ho' ⊢
                exact ⟨j + 1, d', B', rfl, by omega, rfl, h1, h2, ho', HOC'.out.grown hg' (HOC'.out.apart_ty HOI.out (by decide)), Nat.le_trans hzj hg'.size, below_own hG1 hg' (fun g e => Nat.le_trans hbw (HOI.out.lt e).1) hG1.size⟩
          · have hjk2 : j = k := by omega
            subst hjk2
            have hgd : ((m : Int) + (j : Int)) % 4 = 0 := by have := HK'.out; omega
            have hgd2 : ((j : Int) == 0) = false := by simp; omega
            have hgd3 : (((m : Int) + (j : Int)) % 4 != 0) = false := by simp; omega
            have HO1 := Lib.hid (show Own eI 1 2 wr bz (.slice B7 j d7) L by rw [HL'.out, ← HK'.out]; exact HOI.out)
            have HO2 := HOC'
            go_wp2_with (fail)
            clear hgd hgd2 hgd3
            go_loopg [3, 76] j (fun gk v3 v7 wr => ∃ (jj m' d' : Nat) (B' : Option Addr) (out' : List Cel), gk = j - jj ∧ jj ≤ j ∧ v3 = .slice B' m' d' ∧ v7 = .int .i64 jj ∧ out'.length = m' ∧ m' = m + jj ∧ m' ≤ d' ∧ d' ≤ maxLen ∧ Own eCel 3 244 wr w.heap.size (.slice B' m' d') out' ∧ Own eI 1 2 wr 0 (.slice B7 j d7) L ∧ Hid (out' = out ++ (L.take jj).map fun c => (⟨c, p, 1⟩ : Cel)) ∧ Below w.heap.size w wr)
            case atStart => exact ⟨0, m, d, B, out, rfl, by omega, rfl, rfl, HLe.out, rfl, hd1, hd2, HO2.out, HO1.out.lower (Nat.zero_le _), by simp [Hid], hG1⟩
            case round =>
              obtain ⟨jj, m', d', B', out', rfl, hj, rfl, rfl, hlen', hmj, hd1', hd2', ho', hoL, HF, hG'⟩ := hrel
              by_cases hjk : jj < j
              · obtain ⟨x, hx⟩ := get_lt (xs := L) (i := jj) (by rw [HK.out]; exact hjk)
                obtain ⟨ad, rfl, a0⟩ := hoL.rowOf.eI hx
                have HO' := Lib.hid ho'
                have HOL := Lib.hid hoL
                have HLen := Lib.hid hlen'
                have HX' := Lib.hid hx
                have hbd : (out'.length + 1) * 24 ≤ 140737488355328 := by rw [hlen']; omega
                have hbd2 : out'.length + 1 ≤ maxLen := by rw [hlen']; unfold maxLen; omega
                have HBD := Lib.hid hbd
                have HBD2 := Lib.hid hbd2
                clear ho' hoL hlen' hx hbd hbd2
                go_wp2_with (first | (at_builtin; refine wp_append1 eCel 3 _ w.heap.size rfl _ _ 234 244 244 rfl Try.underlying234 (.agg #[.int .i64 0, .int .i64 0, .int .i64 0]) 24 info_cell ⟨0, 0, 0⟩ rfl eCel_len (by decide) eCel_one _ out' rfl HO'.out ⟨x, p, 1⟩ _ rfl rfl HBD.out HBD2.out hG'.size ?_; intro v' w' ho' hg'))
                go_roundg (j - (jj + 1))
                case measure => omega
                case rel =>
                  obtain ⟨B2, d2, rfl, h1, h2, _⟩ := ho'.row
                  have hll : (out' ++ [(⟨x, p, 1⟩ : Cel)]).length = m' + 1 := by rw [List.length_append, HLen.out]; rfl
                  rw [hll] at h1 ho' ⊢
                  refine ⟨jj + 1, m' + 1, d2, B2, _, rfl, by omega, rfl, by go_num, hll, by omega, h1, h2, ho', HOL.out.grown hg' (HOL.out.apart_ty HO'.out (by decide)), ?_, below_own hG' hg' (fun g e => (HO'.out.lt e).1) hG'.size⟩
                  simp only [Hid]
                  rw [HF.out, List.take_add_one, HX'.out]
                  simp
              · have hjk2 : jj = j := by omega
                subst hjk2
                have HO' := Lib.hid ho'
                have HLen := Lib.hid hlen'
                clear ho' hoL hlen'
                go_wp2_with (fail)
                go_roundg (n - (p + 1))
                case measure => omega
                case rel =>
                  refine ⟨p + 1, m', d', B', out', rfl, hq3, rfl, by go_num, HLen.out, by omega, hd1', hd2', HO'.out, ?_, hG'⟩
                  simp only [Hid]
                  rw [HE.out, cellsR_step (by rw [HN.out]; exact hlt), HLe.out, HS.out]
                  rw [show (1 : Int).toNat = 1 from by first | rfl | exact Int.toNat_natCast _]
                  congr 1
                  rw [HF.out, cellsAt, HS.out, List.take_of_length_le (by rw [HK.out]; exact Nat.le_refl _)]
      have hb9 : (b == 9) = false := by simp [h9]
      by_cases h32 : b < 32 ∨ b = 127
      · have hs : shownL xs p m = ([94, bits .xor .u8 b 64], 1) := by unfold shownL; rw [HBT.out, if_neg h9, if_pos h32]
        rw [HS.out] at hs
        obtain ⟨hL', hq'⟩ := Prod.mk.inj hs
        have hq1' : q = 1 := by omega
        have HS1 := Lib.hid (show shownL xs p m = (L, 1) by rw [HS.out, hq1']; rfl)
        subst hq1'
        clear HS
        have HS := HS1
        have hk' : k = 2 := by rw [← HK.out, hL']; rfl
        subst hk'
        have HL' := Lib.hid hL'
        obtain ⟨x0, x1⟩ := xor_in b (by omega) (by omega)
        obtain ⟨W2, hW2⟩ : ∃ W2, W2 = W1.alloc (Obj.cells #[.int .i64 94, .int .i64 (bits .xor .u8 b 64)] 2) := ⟨_, rfl⟩
        have GW2 : Below W1.heap.size W1 W2 := by rw [hW2]; (repeat' (first | (with_reducible exact Below.refl _ _) | (with_reducible assumption) | (with_reducible refine Below.alloc ?_ ?_ _) | (with_reducible refine bdN ?_ _) | (with_reducible refine Below.drew ?_) | (with_reducible refine Below.setCell ?_ ?_ _) | go_size))
        obtain ⟨A1, hA1⟩ : ∃ A1 : Option Addr, A1 = some ⟨w1.heap.size + 1, 0, none⟩ := ⟨_, rfl⟩
        have HA1 := Lib.hid hA1
        have HO1 := Lib.hid (show Own eI 1 2 W2 W1.heap.size (.slice A1 2 2) L by rw [hW2, hL', hA1, ← hz1]; exact Own.lit W1 _ [94, bits .xor .u8 b 64] 2 (Nat.le_refl _) rfl (by unfold maxLen; omega) (Enc.map _ _))
        have HO2' := Lib.hid (HO2.out.below GW2)
        clear HO2
        have HO2 := HO2'
        have hG1 := hG2.trans (GW2.mono hG2.size)
        have HW2 := Lib.hid hW2
        clear hs hL' hq' HS1 HO2' hW2 hA1
        rcases h32 with hlt32 | rfl
        all_goals
          go_wp2_with (fail)
          rw [← HW1.out, ← HW2.out]
          rw [← HA1.out]
          go_loopg [3, 76] 2 (fun gk v3 v7 wr => ∃ (jj m' d' : Nat) (B' : Option Addr) (out' : List Cel), gk = 2 - jj ∧ jj ≤ 2 ∧ v3 = .slice B' m' d' ∧ v7 = .int .i64 jj ∧ out'.length = m' ∧ m' = m + jj ∧ m' ≤ d' ∧ d' ≤ maxLen ∧ Own eCel 3 244 wr w.heap.size (.slice B' m' d') out' ∧ Own eI 1 2 wr 0 (.slice A1 2 2) L ∧ Hid (out' = out ++ (L.take jj).map fun c => (⟨c, p, (1 : Int)⟩ : Cel)) ∧ Below w.heap.size w wr)
          case atStart => exact ⟨0, m, d, B, out, rfl, by omega, rfl, rfl, HLe.out, rfl, hd1, hd2, HO2.out, HO1.out.lower (Nat.zero_le _), by simp [Hid], hG1⟩
          case round =>
            obtain ⟨jj, m', d', B', out', rfl, hj, rfl, rfl, hlen', hmj, hd1', hd2', ho', hoL, HF, hG'⟩ := hrel
            by_cases hjk : jj < 2
            · obtain ⟨x, hx⟩ := get_lt (xs := L) (i := jj) (by rw [HK.out]; exact hjk)
              obtain ⟨ad, rfl, a0⟩ := hoL.rowOf.eI hx
              have HO' := Lib.hid ho'
              have HOL := Lib.hid hoL
              have HLen := Lib.hid hlen'
              have HX' := Lib.hid hx
              have hbd : (out'.length + 1) * 24 ≤ 140737488355328 := by rw [hlen']; omega
              have hbd2 : out'.length + 1 ≤ maxLen := by rw [hlen']; unfold maxLen; omega
              have HBD := Lib.hid hbd
              have HBD2 := Lib.hid hbd2
              clear ho' hoL hlen' hx hbd hbd2
              go_wp2_with (first | (at_builtin; refine wp_append1 eCel 3 _ w.heap.size rfl _ _ 234 244 244 rfl Try.underlying234 (.agg #[.int .i64 0, .int .i64 0, .int .i64 0]) 24 info_cell ⟨0, 0, 0⟩ rfl eCel_len (by decide) eCel_one _ out' rfl HO'.out ⟨x, p, (1 : Int)⟩ _ rfl rfl HBD.out HBD2.out hG'.size ?_; intro v' w' ho' hg'))
              go_roundg (2 - (jj + 1))
              case measure => omega
              case rel =>
                obtain ⟨B2, d2, rfl, h1, h2, _⟩ := ho'.row
                have hll : (out' ++ [(⟨x, p, (1 : Int)⟩ : Cel)]).length = m' + 1 := by rw [List.length_append, HLen.out]; rfl
                rw [hll] at h1 ho' ⊢
                refine ⟨jj + 1, m' + 1, d2, B2, _, rfl, by omega, rfl, by go_num, hll, by omega, h1, h2, ho', HOL.out.grown hg' (HOL.out.apart_ty HO'.out (by decide)), ?_, below_own hG' hg' (fun g e => (HO'.out.lt e).1) hG'.size⟩
                simp only [Hid]
                rw [HF.out, List.take_add_one, HX'.out]
                simp
            · have hjk2 : jj = 2 := by omega
              subst hjk2
              have HO' := Lib.hid ho'
              have HLen := Lib.hid hlen'
              clear ho' hoL hlen'
              go_wp2_with (fail)
              go_roundg (n - (p + 1))
              case measure => omega
              case rel =>
                refine ⟨p + 1, m', d', B', out', rfl, hq3, rfl, by go_num, HLen.out, by omega, hd1', hd2', HO'.out, ?_, hG'⟩
                simp only [Hid]
                rw [HE.out, cellsR_step (by rw [HN.out]; exact hlt), HLe.out, HS.out]
                rw [show ((1 : Int)).toNat = 1 from by first | rfl | exact Int.toNat_natCast _]
                congr 1
                rw [HF.out, cellsAt, HS.out, List.take_of_length_le (by rw [HK.out]; exact Nat.le_refl _)]
      have hb32 : ¬ b < 32 := fun e => h32 (.inl e)
      have hb127 : (b == 127) = false := by have := fun e => h32 (.inr e); simp; exact this
      have h32' : ¬ (b < 32 ∨ b = 127) := h32
      clear h32
      by_cases hu : (dec xs p).2 = 0
      · have hs : shownL xs p m = ([60, hexF (b / 16), hexF (b % 16), 62], 1) := by unfold shownL; rw [HBT.out, if_neg h9, if_neg h32', if_pos hu]
        have hdc : cd = 5 := by have := HD.out; unfold decR at this; rw [if_pos hu] at this; cases this; rfl
        subst hdc
        rw [HS.out] at hs
        obtain ⟨hL', hq'⟩ := Prod.mk.inj hs
        have hq1' : q = 1 := by omega
        have HS1 := Lib.hid (show shownL xs p m = (L, 1) by rw [HS.out, hq1']; rfl)
        subst hq1'
        clear HS
        have HS := HS1
        have hk' : k = 4 := by rw [← HK.out, hL']; rfl
        subst hk'
        have m15 : bits .and .u8 b 15 = b % 16 := and15_u8 b hb1 hb2
        have i1 : (0 : Int) ≤ b / 16 := by omega
        have i2 : b / 16 < 16 := by omega
        have i3 : (0 : Int) ≤ b % 16 := by omega
        have i4 : b % 16 < 16 := by omega
        obtain ⟨A1, hA1⟩ : ∃ A1 : Option Addr, A1 = some ⟨w1.heap.size + 1, 0, none⟩ := ⟨_, rfl⟩
        have HA1 := Lib.hid hA1
        obtain ⟨W2, hW2⟩ : ∃ W2, W2 = (W1.alloc (Obj.cells #[.int .i64 60, .int .i64 (hexF (b / 16)), .int .i64 (hexF (b % 16)), .int .i64 62] 2)).drew := ⟨_, rfl⟩
        have GW2 : Below W1.heap.size W1 W2 := by rw [hW2]; (repeat' (first | (with_reducible exact Below.refl _ _) | (with_reducible assumption) | (with_reducible refine Below.alloc ?_ ?_ _) | (with_reducible refine bdN ?_ _) | (with_reducible refine Below.drew ?_) | (with_reducible refine Below.setCell ?_ ?_ _) | go_size))
        have HO1 := Lib.hid (show Own eI 1 2 W2 W1.heap.size (.slice A1 4 4) L by rw [hW2, hL', hA1, ← hz1]; exact (Own.lit W1 _ [60, hexF (b / 16), hexF (b % 16), 62] 4 (Nat.le_refl _) rfl (by unfold maxLen; omega) (Enc.map _ _)).drew)
        have HO2' := Lib.hid (HO2.out.below GW2)
        clear HO2
        have HO2 := HO2'
        have hG1 := hG2.trans (GW2.mono hG2.size)
        have HW2 := Lib.hid hW2
        have e1 := hex_at (b / 16) i1 i2 (show (b / 16).toNat < 16 by omega)
        have e2 := hex_at (b % 16) i3 i4 (show (b % 16).toNat < 16 by omega)
        unfold hexS at e1 e2
        have E1 := Lib.hid e1
        have E2 := Lib.hid e2
        clear hs hL' hq' h32' hu HS1 hW2 hA1 HO2' e1 e2
        go_wp2_with (fail)
        rw [← HW1.out]
        go_region
        rw [E1.out, E2.out, ← HW2.out, ← HA1.out]
        go_wp2_with (fail)
        go_loopg [3, 76] 4 (fun gk v3 v7 wr => ∃ (jj m' d' : Nat) (B' : Option Addr) (out' : List Cel), gk = 4 - jj ∧ jj ≤ 4 ∧ v3 = .slice B' m' d' ∧ v7 = .int .i64 jj ∧ out'.length = m' ∧ m' = m + jj ∧ m' ≤ d' ∧ d' ≤ maxLen ∧ Own eCel 3 244 wr w.heap.size (.slice B' m' d') out' ∧ Own eI 1 2 wr 0 (.slice A1 4 4) L ∧ Hid (out' = out ++ (L.take jj).map fun c => (⟨c, p, (1 : Int)⟩ : Cel)) ∧ Below w.heap.size w wr)
        case atStart => exact ⟨0, m, d, B, out, rfl, by omega, rfl, rfl, HLe.out, rfl, hd1, hd2, HO2.out, HO1.out.lower (Nat.zero_le _), by simp [Hid], hG1⟩
        case round =>
          obtain ⟨jj, m', d', B', out', rfl, hj, rfl, rfl, hlen', hmj, hd1', hd2', ho', hoL, HF, hG'⟩ := hrel
          by_cases hjk : jj < 4
          · obtain ⟨x, hx⟩ := get_lt (xs := L) (i := jj) (by rw [HK.out]; exact hjk)
            obtain ⟨ad, rfl, a0⟩ := hoL.rowOf.eI hx
            have HO' := Lib.hid ho'
            have HOL := Lib.hid hoL
            have HLen := Lib.hid hlen'
            have HX' := Lib.hid hx
            have hbd : (out'.length + 1) * 24 ≤ 140737488355328 := by rw [hlen']; omega
            have hbd2 : out'.length + 1 ≤ maxLen := by rw [hlen']; unfold maxLen; omega
            have HBD := Lib.hid hbd
            have HBD2 := Lib.hid hbd2
            clear ho' hoL hlen' hx hbd hbd2
            go_wp2_with (first | (at_builtin; refine wp_append1 eCel 3 _ w.heap.size rfl _ _ 234 244 244 rfl Try.underlying234 (.agg #[.int .i64 0, .int .i64 0, .int .i64 0]) 24 info_cell ⟨0, 0, 0⟩ rfl eCel_len (by decide) eCel_one _ out' rfl HO'.out ⟨x, p, (1 : Int)⟩ _ rfl rfl HBD.out HBD2.out hG'.size ?_; intro v' w' ho' hg'))
            go_roundg (4 - (jj + 1))
            case measure => omega
            case rel =>
              obtain ⟨B2, d2, rfl, h1, h2, _⟩ := ho'.row
              have hll : (out' ++ [(⟨x, p, (1 : Int)⟩ : Cel)]).length = m' + 1 := by rw [List.length_append, HLen.out]; rfl
              rw [hll] at h1 ho' ⊢
              refine ⟨jj + 1, m' + 1, d2, B2, _, rfl, by omega, rfl, by go_num, hll, by omega, h1, h2, ho', HOL.out.grown hg' (HOL.out.apart_ty HO'.out (by decide)), ?_, below_own hG' hg' (fun g e => (HO'.out.lt e).1) hG'.size⟩
              simp only [Hid]
              rw [HF.out, List.take_add_one, HX'.out]
              simp
          · have hjk2 : jj = 4 := by omega
            subst hjk2
            have HO' := Lib.hid ho'
            have HLen := Lib.hid hlen'
            clear ho' hoL hlen'
            go_wp2_with (fail)
            go_roundg (n - (p + 1))
            case measure => omega
            case rel =>
              refine ⟨p + 1, m', d', B', out', rfl, hq3, rfl, by go_num, HLen.out, by omega, hd1', hd2', HO'.out, ?_, hG'⟩
              simp only [Hid]
              rw [HE.out, cellsR_step (by rw [HN.out]; exact hlt), HLe.out, HS.out]
              rw [show ((1 : Int)).toNat = 1 from by first | rfl | exact Int.toNat_natCast _]
              congr 1
              rw [HF.out, cellsAt, HS.out, List.take_of_length_le (by rw [HK.out]; exact Nat.le_refl _)]
      · have hs : shownL xs p m = ([(dec xs p).1], (dec xs p).2) := by unfold shownL; rw [HBT.out, if_neg h9, if_neg h32', if_neg hu]
        have hdd : cd = 0 ∧ chh = (dec xs p).1 ∧ us = (dec xs p).2 := by have := HD.out; unfold decR at this; rw [if_neg hu] at this; cases this; exact ⟨rfl, rfl, rfl⟩
        obtain ⟨rfl, hch, hus⟩ := hdd
        rw [← hch, ← hus, HS.out] at hs
        obtain ⟨hL', hq'⟩ := Prod.mk.inj hs
        have hus2 : us = (q : Int) := hq'.symm
        subst hus2
        have hk' : k = 1 := by rw [← HK.out, hL']; rfl
        subst hk'
        obtain ⟨A1, hA1⟩ : ∃ A1 : Option Addr, A1 = some ⟨w1.heap.size + 1, 0, none⟩ := ⟨_, rfl⟩
        have HA1 := Lib.hid hA1
        obtain ⟨W2, hW2⟩ : ∃ W2, W2 = (W1.alloc (Obj.cells #[.int .i64 chh] 2)).drew := ⟨_, rfl⟩
        have GW2 : Below W1.heap.size W1 W2 := by rw [hW2]; (repeat' (first | (with_reducible exact Below.refl _ _) | (with_reducible assumption) | (with_reducible refine Below.alloc ?_ ?_ _) | (with_reducible refine bdN ?_ _) | (with_reducible refine Below.drew ?_) | (with_reducible refine Below.setCell ?_ ?_ _) | go_size))
        have HO1 := Lib.hid (show Own eI 1 2 W2 W1.heap.size (.slice A1 1 1) L by rw [hW2, hL', hA1, ← hz1]; exact (Own.lit W1 _ [chh] 1 (Nat.le_refl _) rfl (by unfold maxLen; omega) (Enc.map _ _)).drew)
        have HO2' := Lib.hid (HO2.out.below GW2)
        clear HO2
        have HO2 := HO2'
        have hG1 := hG2.trans (GW2.mono hG2.size)
        have HW2 := Lib.hid hW2
        clear hs hL' hq' HO2' hW2 hA1 hch hu h32' hus
        go_wp2_with (fail)
        rw [← HW1.out]
        go_region
        go_wp2_with (fail)
        rw [← HW2.out, ← HA1.out]
        go_loopg [3, 76] 1 (fun gk v3 v7 wr => ∃ (jj m' d' : Nat) (B' : Option Addr) (out' : List Cel), gk = 1 - jj ∧ jj ≤ 1 ∧ v3 = .slice B' m' d' ∧ v7 = .int .i64 jj ∧ out'.length = m' ∧ m' = m + jj ∧ m' ≤ d' ∧ d' ≤ maxLen ∧ Own eCel 3 244 wr w.heap.size (.slice B' m' d') out' ∧ Own eI 1 2 wr 0 (.slice A1 1 1) L ∧ Hid (out' = out ++ (L.take jj).map fun c => (⟨c, p, (q : Int)⟩ : Cel)) ∧ Below w.heap.size w wr)
        case atStart => exact ⟨0, m, d, B, out, rfl, by omega, rfl, rfl, HLe.out, rfl, hd1, hd2, HO2.out, HO1.out.lower (Nat.zero_le _), by simp [Hid], hG1⟩
        case round =>
          obtain ⟨jj, m', d', B', out', rfl, hj, rfl, rfl, hlen', hmj, hd1', hd2', ho', hoL, HF, hG'⟩ := hrel
          by_cases hjk : jj < 1
          · obtain ⟨x, hx⟩ := get_lt (xs := L) (i := jj) (by rw [HK.out]; exact hjk)
            obtain ⟨ad, rfl, a0⟩ := hoL.rowOf.eI hx
            have HO' := Lib.hid ho'
            have HOL := Lib.hid hoL
            have HLen := Lib.hid hlen'
            have HX' := Lib.hid hx
            have hbd : (out'.length + 1) * 24 ≤ 140737488355328 := by rw [hlen']; omega
            have hbd2 : out'.length + 1 ≤ maxLen := by rw [hlen']; unfold maxLen; omega
            have HBD := Lib.hid hbd
            have HBD2 := Lib.hid hbd2
            clear ho' hoL hlen' hx hbd hbd2
            go_wp2_with (first | (at_builtin; refine wp_append1 eCel 3 _ w.heap.size rfl _ _ 234 244 244 rfl Try.underlying234 (.agg #[.int .i64 0, .int .i64 0, .int .i64 0]) 24 info_cell ⟨0, 0, 0⟩ rfl eCel_len (by decide) eCel_one _ out' rfl HO'.out ⟨x, p, (q : Int)⟩ _ rfl rfl HBD.out HBD2.out hG'.size ?_; intro v' w' ho' hg'))
            go_roundg (1 - (jj + 1))
            case measure => omega
            case rel =>
              obtain ⟨B2, d2, rfl, h1, h2, _⟩ := ho'.row
              have hll : (out' ++ [(⟨x, p, (q : Int)⟩ : Cel)]).length = m' + 1 := by rw [List.length_append, HLen.out]; rfl
              rw [hll] at h1 ho' ⊢
              refine ⟨jj + 1, m' + 1, d2, B2, _, rfl, by omega, rfl, by go_num, hll, by omega, h1, h2, ho', HOL.out.grown hg' (HOL.out.apart_ty HO'.out (by decide)), ?_, below_own hG' hg' (fun g e => (HO'.out.lt e).1) hG'.size⟩
              simp only [Hid]
              rw [HF.out, List.take_add_one, HX'.out]
              simp
          · have hjk2 : jj = 1 := by omega
            subst hjk2
            have HO' := Lib.hid ho'
            have HLen := Lib.hid hlen'
            clear ho' hoL hlen'
            go_wp2_with (fail)
            go_roundg (n - (p + q))
            case measure => omega
            case rel =>
              refine ⟨p + q, m', d', B', out', rfl, hq3, rfl, by go_num, HLen.out, by omega, hd1', hd2', HO'.out, ?_, hG'⟩
              simp only [Hid]
              rw [HE.out, cellsR_step (by rw [HN.out]; exact hlt), HLe.out, HS.out]
              rw [show ((q : Int)).toNat = q from by first | rfl | exact Int.toNat_natCast _]
              congr 1
              rw [HF.out, cellsAt, HS.out, List.take_of_length_le (by rw [HK.out]; exact Nat.le_refl _)]
    · have hpn : p = n := by omega
      subst hpn
      have hcl : cellsOf xs = out := by rw [HE.out, cellsR_end (by rw [HN.out]; omega)]
      have HO := Lib.hid ho
      have HLe := Lib.hid hlen
      clear ho hlen
      go_wp2_with (fail)
      go_ret
      have := H.out B d _ (by rw [hcl, HLe.out]; exact HO.out) (by rw [hcl, HLe.out]; exact hd1) hd2 hG
      rw [hcl, HLe.out] at this
      exact this
end Go.Proofs.Ytjnmhpldabbeiaa.M
end
section
namespace Go.Proofs.Ytjnmhpldabbeiaa.M
open Go.RowKit
def lineOk (l : List Int) : Bool := decide (l.length ≤ 1048576) && l.all fun x => decide (0 ≤ x ∧ x ≤ 255)
theorem lineOk_len {l : List Int} (h : lineOk l = true) : l.length ≤ 1048576 := by
  simp only [lineOk, Bool.and_eq_true, decide_eq_true_eq] at h
  exact h.1
theorem lineOk_byt {l : List Int} (h : lineOk l = true) : Byt l := fun i y hy => by
  simp only [lineOk, Bool.and_eq_true, List.all_eq_true, decide_eq_true_eq] at h
  exact h.2 y (List.mem_of_getElem? hy)
theorem cellsR_len (xs : List Int) : ∀ (d p : Nat) (out : List Cel), xs.length - p = d → (cellsR xs p out).length ≤ out.length + 4 * (xs.length - p) := fun d => by
  induction d using Nat.strongRecOn with
  | _ d ih =>
    intro p out hd
    by_cases h : p < xs.length
    · rw [cellsR_step h]
      obtain ⟨a, b, c, e⟩ := shown_n h out.length
      have := ih (xs.length - (p + (shownL xs p out.length).2.toNat)) (by omega) (p + (shownL xs p out.length).2.toNat) (out ++ cellsAt xs p out.length) rfl
      have h2 : (cellsAt xs p out.length).length = (shownL xs p out.length).1.length := by simp [cellsAt]
      rw [List.length_append, h2] at this
      omega
    · rw [cellsR_end h]
      omega
theorem cellsOf_len (xs : List Int) : (cellsOf xs).length ≤ 4 * xs.length := by
  have := cellsR_len xs xs.length 0 [] (by omega)
  simpa [cellsOf] using this
theorem lineOk_of {l : List Int} (h : l.length ≤ 1048576) (hw : ∀ x ∈ l, (Lit.int .u8 x).wf = true) : lineOk l = true := by
  simp only [lineOk, Bool.and_eq_true, List.all_eq_true, decide_eq_true_eq]
  refine ⟨h, fun x hx => ?_⟩
  exact bounds_u8 (hw x hx)
end Go.Proofs.Ytjnmhpldabbeiaa.M
end
section
namespace Go.Proofs.Ytjnmhpldabbeiaa.Q
open Go.RowKit Go.Proofs.YtjnmhpldabbeiaaW.PrintWords Go.Proofs.YtjnmhpldabbeiaaW.PrintLast Go.Proofs.YtjnmhpldabbeiaaW.PrintMore
attribute [local go_sem] max2_int min2_int max_two min_two max_three min_three max_four min_four   -- for this text's walks alone
set_option linter.unusedVariables false
set_option linter.unusedSimpArgs false
/-! ### spec_l1Cells: function 194 -/
def cellsS (l : List Int) : List S244:=(M.cellsOf l).map fun c => ⟨c.a,c.b,c.c⟩
theorem cellsS_map (l : List Int) : (cellsS l).map (fun s : S244 => (⟨s.f0,s.f1,s.f2⟩ : M.Cel)) = M.cellsOf l:=by
 rw [cellsS,List.map_map]
 exact List.map_id _
def spec_l1Cells.f (l0 : List Int) : Option (List S244):=if M.lineOk l0 = true then some (cellsS l0) else none
theorem cellsS_R {w : World} {base : Nat} {v : Value} {l : List Int} (h : M.Own M.eCel 3 244 w base v (M.cellsOf l)) : Kd.R k244 244 w base (fun _ => True) v (cellsS l) :=
 M.R_of_own (f:=fun s : S244 => (⟨s.f0,s.f1,s.f2⟩ : M.Cel)) rfl (fun w b ok x => k244_mkM w b ok x) M.eCel_len (by rw [cellsS_map];exact h)
theorem spec_l1Cells.calls (A0 : Option Addr) (c0 : Nat) (l0 : List Int) (r : List (S244)) (w : World) (hr0 : Kd.C (Kd.int .u8) w A0 l0.length l0) (hc0 : l0.length ≤ c0) (h : spec_l1Cells.f l0 = some r) :
 Calls Try.prog 194 #[.slice A0 l0.length c0] w fun e w' => ∃ v0_ : Value,e = .returned (v0_) ∧ Kd.R k244 244 w' w.heap.size (fun _ => True) v0_ r ∧ Below w.heap.size w w':=by
 unfold spec_l1Cells.f at h
 split at h
 · rename_i hok
   obtain rfl:=Option.some.inj h
   exact M.l1Cells_c A0 l0.length c0 l0 w rfl (M.row_ints hr0) (M.lineOk_byt hok) (M.lineOk_len hok) _ (fun A' c' w' ho _ _ hb => ⟨_,rfl,cellsS_R ho,hb⟩)
 · cases h
end Go.Proofs.Ytjnmhpldabbeiaa.Q
end
section
namespace Go.Proofs.Ytjnmhpldabbeiaa.Q
theorem cellsS_len (l : List Int) : (cellsS l).length ≤ 4 * l.length := by rw [cellsS, List.length_map]; exact M.cellsOf_len l
end Go.Proofs.Ytjnmhpldabbeiaa.Q
end
section
namespace Go.Proofs.Ytjnmhpldabbeiaa.Q
open Go.RowKit Go.Proofs.YtjnmhpldabbeiaaW.PrintWords Go.Proofs.YtjnmhpldabbeiaaW.PrintLast Go.Proofs.YtjnmhpldabbeiaaW.PrintMore
attribute [local go_sem] max2_int min2_int max_two min_two max_three min_three max_four min_four   -- for this text's walks alone
set_option linter.unusedVariables false
set_option linter.unusedSimpArgs false
/-! ### impl_cells: function 196 -/
def impl_cells.f (l0 : List Int) : Option (List S244):=spec_l1Cells.f l0
theorem impl_cells.calls (A0 : Option Addr) (c0 : Nat) (l0 : List Int) (r : List (S244)) (w : World) (hr0 : Kd.C (Kd.int .u8) w A0 l0.length l0) (hc0 : l0.length ≤ c0) (h : impl_cells.f l0 = some r) :
 Calls Try.prog 196 #[.slice A0 l0.length c0] w fun e w' => ∃ v0_ : Value,e = .returned (v0_) ∧ Kd.R k244 244 w' w.heap.size (fun _ => True) v0_ r ∧ Below w.heap.size w w':=by
 unfold impl_cells.f spec_l1Cells.f at h
 split at h
 · rename_i hok
   obtain rfl:=Option.some.inj h
   exact M.cells_c A0 l0.length c0 l0 w rfl (M.row_ints hr0) (M.lineOk_byt hok) hc0 (M.lineOk_len hok) _ (fun A' c' w' ho _ _ hb => ⟨_,rfl,cellsS_R ho,hb⟩)
 · cases h
end Go.Proofs.Ytjnmhpldabbeiaa.Q
end
section
namespace Go.Proofs.Ytjnmhpldabbeiaa.Q
open Go.RowKit Go.Proofs.YtjnmhpldabbeiaaW.PrintWords Go.Proofs.YtjnmhpldabbeiaaW.PrintLast Go.Proofs.YtjnmhpldabbeiaaW.PrintMore
attribute [local go_sem] max2_int min2_int max_two min_two max_three min_three max_four min_four   -- for this text's walks alone
set_option linter.unusedVariables false
set_option linter.unusedSimpArgs false
/-! ### impl_rowCount: function 173 -/
def impl_rowCount.f (l0 : List Int) (a1_0 : Int) (a1_1 : Bool) (a1_2 : Int) : Option (Int):=(impl_cells.f l0).bind fun t102 => (if a1_1 = true then (some 1) else (if (t102.length : Int) = 0 then (some 1) else (if a1_0 = 0 then (none) else (some (wrap64 (Int.tdiv (wrap64 ((wrap64 ((t102.length : Int) + a1_0)) - 1)) a1_0))))))
set_option maxHeartbeats 8000000 in
set_option maxRecDepth 100000 in
theorem impl_rowCount.calls (A0 : Option Addr) (c0 : Nat) (l0 : List Int) (a1_0 : Int) (a1_1 : Bool) (a1_2 : Int) (r : Int) (w : World) (hr0 : Kd.C (Kd.int .u8) w A0 l0.length l0) (hc0 : l0.length ≤ c0) (h : impl_rowCount.f l0 a1_0 a1_1 a1_2 = some r) :
 Calls Try.prog 173 #[.slice A0 l0.length c0,.agg #[.int .i64 a1_0,.bool a1_1,.int .i64 a1_2]] w fun e w' => e = .returned (.int .i64 r) ∧ Below w.heap.size w w':=by
 have hu37:=Try.underlying37
 have HR0:=Aside0.mk hr0
 have HC0:=Aside0.mk hc0
 clear hr0 hc0
 have HB:=Aside0.mk (Below.refl w.heap.size w)
 have H : ((impl_cells.f l0).bind fun t102 => (if a1_1 = true then (some 1) else (if (t102.length : Int) = 0 then (some 1) else (if a1_0 = 0 then (none) else (some (wrap64 (Int.tdiv (wrap64 ((wrap64 ((t102.length : Int) + a1_0)) - 1)) a1_0))))))) = some r:=h
 clear h
 replace H:=Option.bind_eq_some_iff.mp H
 obtain ⟨t102,A30,H⟩:=H
 replace H : (if a1_1 = true then (some 1) else (if (t102.length : Int) = 0 then (some 1) else (if a1_0 = 0 then (none) else (some (wrap64 (Int.tdiv (wrap64 ((wrap64 ((t102.length : Int) + a1_0)) - 1)) a1_0)))))) = some r:=H
 have A3:=Aside0.mk A30
 clear A30
 by_cases c4 : a1_1 = true
 · subst c4
   have H1 : (some 1) = some r:=by rw [if_pos rfl] at H;exact H
   clear H
   have H:=H1
   clear H1
   obtain rfl:=Option.some.inj H
   go_enter Try.func173,Try.ntmps173
   go_wp2_with (first|((with_reducible refine gate_dst (N:=3) rfl ?_);refine box_event ?hg (N:=3) ?hd (cs:=#[.int .i64 a1_0,.bool true,.int .i64 a1_2]) (t:=37) ?hr ?_;(case hd => rfl);(case hg => rfl);(case hr => first|(go_simp;done)|(go_simp;rfl));intro gb101 hg w5 hbox hb;have n0_:=Aside0.mk (below_step (by repeat (first|(with_reducible first|exact HB.out|apply below_alloc|apply pw_below_drewN|apply below_drew1)|exact HB.out)) hb);have n1_:=Aside0.mk (hbox);have n2_:=Aside0.mk ((by rw [hg];exact (below_size (by repeat (first|(with_reducible first|exact HB.out|apply below_alloc|apply pw_below_drewN|apply below_drew1)|exact HB.out))) : w.heap.size ≤ gb101));have n3_:=Aside0.mk ((by rw [hg];exact (below_size (by repeat (first|(with_reducible first|exact HB.out|apply below_alloc|apply pw_below_drewN|apply below_drew1)|exact HB.out))) : w.heap.size ≤ gb101));clear HB;have HB:=n0_;have BK101:=n1_;have GW101:=n2_;have GE101:=n3_;clear n0_ n1_ n2_ n3_;clear hb hbox hg)|((with_reducible refine gate_callee (f:=196) rfl ?_);refine goesL_ (some 7) rfl rfl Try.func196 (by kernel_rfl) rfl #[.slice A0 l0.length c0] rfl (by (try simp only [List.map_toArray,List.map_cons,List.map_nil]);first|done|rfl|(simp only [List.length_drop,List.length_take];rfl)) ?_;(with_reducible refine (impl_cells.calls _ _ l0 t102 _ ?side1 ?side2 A3.out).mono ?_);(case side1 => repeat (first|exact (Kd.C_below HR0.out HB.out)|(with_reducible refine Kd.C_alloc ?_ _)|(with_reducible refine Kd.C_drewN ?_ _)|(with_reducible refine Kd.C_drew ?_)));(case side2 => exact HC0.out);rintro e w6 ⟨v103,rfl,ho0,hb⟩;refine ⟨_,rfl,?_⟩;have n0_:=Aside0.mk (Kd.R_lower ho0 (below_size (by repeat (first|(with_reducible first|exact HB.out|apply below_alloc|apply pw_below_drewN|apply below_drew1|refine below_set ?_ GE101.out)|exact HB.out))));have n1_:=Aside0.mk (blk_below (g:=gb101) (o:=.cells #[.int .i64 a1_0,.bool true,.int .i64 a1_2] 37 (0,0)) (by (with_reducible repeat (first|refine blk_drewN ?_ _|refine blk_drew ?_|refine blk_alloc ?_ _));exact BK101.out) hb);have n2_:=Aside0.mk (below_step (by repeat (first|(with_reducible first|exact HB.out|apply below_alloc|apply pw_below_drewN|apply below_drew1|refine below_set ?_ GE101.out)|exact HB.out)) hb);clear BK101;clear HB;have HO104:=n0_;have BK101:=n1_;have HB:=n2_;clear n0_ n1_ n2_;(try clear hb);(try clear hb2);(try clear hk);(try clear hi);(try clear ho0);obtain ⟨Ao7,co7,eo7⟩:=Kd.R_slice HO104.out;subst eo7;have hcz8_0 : w6.cell? ⟨gb101,0,none⟩ = some (.int .i64 a1_0):=(blk_cell BK101.out 0).trans rfl;have hcz8_1 : w6.cell? ⟨gb101,1,none⟩ = some (.bool true):=(blk_cell BK101.out 1).trans rfl;have hcz8_2 : w6.cell? ⟨gb101,2,none⟩ = some (.int .i64 a1_2):=(blk_cell BK101.out 2).trans rfl;have hfz8_0:=blk_frozen BK101.out 0;have hfz8_1:=blk_frozen BK101.out 1;have hfz8_2:=blk_frozen BK101.out 2))
   go_ret
   exact ⟨by first|rfl|(simp [errW_none,errW_some] <;> rfl)|(simp [*,errW_none,errW_some] <;> rfl),by repeat (first|(with_reducible first|exact HB.out|apply below_alloc|apply pw_below_drewN|apply below_drew1|refine below_set ?_ GE101.out)|exact HB.out)⟩
 · replace c4:=Bool.eq_false_iff.mpr c4
   subst c4
   have H1 : (if (t102.length : Int) = 0 then (some 1) else (if a1_0 = 0 then (none) else (some (wrap64 (Int.tdiv (wrap64 ((wrap64 ((t102.length : Int) + a1_0)) - 1)) a1_0))))) = some r:=by rw [if_neg (show ¬ (false = true) by decide)] at H;exact H
   clear H
   have H:=H1
   clear H1
   by_cases c9 : (t102.length : Int) = 0
   · rw [if_pos c9] at H
     have c9b0 : ((t102.length : Int) == 0) = true:=beq_iff_eq.mpr c9
     have c9b1 : ((t102.length : Int) != 0) = false:=bne_eq_false_iff_eq.mpr c9
     clear c9
     obtain rfl:=Option.some.inj H
     go_enter Try.func173,Try.ntmps173
     go_wp2_with (first|((with_reducible refine gate_dst (N:=3) rfl ?_);refine box_event ?hg (N:=3) ?hd (cs:=#[.int .i64 a1_0,.bool false,.int .i64 a1_2]) (t:=37) ?hr ?_;(case hd => rfl);(case hg => rfl);(case hr => first|(go_simp;done)|(go_simp;rfl));intro gb101 hg w10 hbox hb;have n0_:=Aside0.mk (below_step (by repeat (first|(with_reducible first|exact HB.out|apply below_alloc|apply pw_below_drewN|apply below_drew1)|exact HB.out)) hb);have n1_:=Aside0.mk (hbox);have n2_:=Aside0.mk ((by rw [hg];exact (below_size (by repeat (first|(with_reducible first|exact HB.out|apply below_alloc|apply pw_below_drewN|apply below_drew1)|exact HB.out))) : w.heap.size ≤ gb101));have n3_:=Aside0.mk ((by rw [hg];exact (below_size (by repeat (first|(with_reducible first|exact HB.out|apply below_alloc|apply pw_below_drewN|apply below_drew1)|exact HB.out))) : w.heap.size ≤ gb101));clear HB;have HB:=n0_;have BK101:=n1_;have GW101:=n2_;have GE101:=n3_;clear n0_ n1_ n2_ n3_;clear hb hbox hg)|((with_reducible refine gate_callee (f:=196) rfl ?_);refine goesL_ (some 7) rfl rfl Try.func196 (by kernel_rfl) rfl #[.slice A0 l0.length c0] rfl (by (try simp only [List.map_toArray,List.map_cons,List.map_nil]);first|done|rfl|(simp only [List.length_drop,List.length_take];rfl)) ?_;(with_reducible refine (impl_cells.calls _ _ l0 t102 _ ?side1 ?side2 A3.out).mono ?_);(case side1 => repeat (first|exact (Kd.C_below HR0.out HB.out)|(with_reducible refine Kd.C_alloc ?_ _)|(with_reducible refine Kd.C_drewN ?_ _)|(with_reducible refine Kd.C_drew ?_)));(case side2 => exact HC0.out);rintro e w11 ⟨v103,rfl,ho0,hb⟩;refine ⟨_,rfl,?_⟩;have n0_:=Aside0.mk (Kd.R_lower ho0 (below_size (by repeat (first|(with_reducible first|exact HB.out|apply below_alloc|apply pw_below_drewN|apply below_drew1|refine below_set ?_ GE101.out)|exact HB.out))));have n1_:=Aside0.mk (blk_below (g:=gb101) (o:=.cells #[.int .i64 a1_0,.bool false,.int .i64 a1_2] 37 (0,0)) (by (with_reducible repeat (first|refine blk_drewN ?_ _|refine blk_drew ?_|refine blk_alloc ?_ _));exact BK101.out) hb);have n2_:=Aside0.mk (below_step (by repeat (first|(with_reducible first|exact HB.out|apply below_alloc|apply pw_below_drewN|apply below_drew1|refine below_set ?_ GE101.out)|exact HB.out)) hb);clear BK101;clear HB;have HO104:=n0_;have BK101:=n1_;have HB:=n2_;clear n0_ n1_ n2_;(try clear hb);(try clear hb2);(try clear hk);(try clear hi);(try clear ho0);obtain ⟨Ao12,co12,eo12⟩:=Kd.R_slice HO104.out;subst eo12;have hcz13_0 : w11.cell? ⟨gb101,0,none⟩ = some (.int .i64 a1_0):=(blk_cell BK101.out 0).trans rfl;have hcz13_1 : w11.cell? ⟨gb101,1,none⟩ = some (.bool false):=(blk_cell BK101.out 1).trans rfl;have hcz13_2 : w11.cell? ⟨gb101,2,none⟩ = some (.int .i64 a1_2):=(blk_cell BK101.out 2).trans rfl;have hfz13_0:=blk_frozen BK101.out 0;have hfz13_1:=blk_frozen BK101.out 1;have hfz13_2:=blk_frozen BK101.out 2))
     go_ret
     exact ⟨by first|rfl|(simp [errW_none,errW_some] <;> rfl)|(simp [*,errW_none,errW_some] <;> rfl),by repeat (first|(with_reducible first|exact HB.out|apply below_alloc|apply pw_below_drewN|apply below_drew1|refine below_set ?_ GE101.out)|exact HB.out)⟩
   · rw [if_neg c9] at H
     have c9b0 : ((t102.length : Int) == 0) = false:=beq_eq_false_iff_ne.mpr c9
     have c9b1 : ((t102.length : Int) != 0) = true:=bne_iff_ne.mpr c9
     have c9b2 : ¬ (t102 = []):=fun h_ => c9 (by rw [h_];rfl)
     by_cases c14 : a1_0 = 0
     · rw [if_pos c14] at H
       exact absurd H (by simp)
     · rw [if_neg c14] at H
       have c14b0 : (a1_0 == 0) = false:=beq_eq_false_iff_ne.mpr c14
       have c14b1 : (a1_0 != 0) = true:=bne_iff_ne.mpr c14
       obtain rfl:=Option.some.inj H
       go_enter Try.func173,Try.ntmps173
       go_wp2_with (first|((with_reducible refine gate_dst (N:=3) rfl ?_);refine box_event ?hg (N:=3) ?hd (cs:=#[.int .i64 a1_0,.bool false,.int .i64 a1_2]) (t:=37) ?hr ?_;(case hd => rfl);(case hg => rfl);(case hr => first|(go_simp;done)|(go_simp;rfl));intro gb101 hg w15 hbox hb;have n0_:=Aside0.mk (below_step (by repeat (first|(with_reducible first|exact HB.out|apply below_alloc|apply pw_below_drewN|apply below_drew1)|exact HB.out)) hb);have n1_:=Aside0.mk (hbox);have n2_:=Aside0.mk ((by rw [hg];exact (below_size (by repeat (first|(with_reducible first|exact HB.out|apply below_alloc|apply pw_below_drewN|apply below_drew1)|exact HB.out))) : w.heap.size ≤ gb101));have n3_:=Aside0.mk ((by rw [hg];exact (below_size (by repeat (first|(with_reducible first|exact HB.out|apply below_alloc|apply pw_below_drewN|apply below_drew1)|exact HB.out))) : w.heap.size ≤ gb101));clear HB;have HB:=n0_;have BK101:=n1_;have GW101:=n2_;have GE101:=n3_;clear n0_ n1_ n2_ n3_;clear hb hbox hg)|((with_reducible refine gate_callee (f:=196) rfl ?_);refine goesL_ (some 7) rfl rfl Try.func196 (by kernel_rfl) rfl #[.slice A0 l0.length c0] rfl (by (try simp only [List.map_toArray,List.map_cons,List.map_nil]);first|done|rfl|(simp only [List.length_drop,List.length_take];rfl)) ?_;(with_reducible refine (impl_cells.calls _ _ l0 t102 _ ?side1 ?side2 A3.out).mono ?_);(case side1 => repeat (first|exact (Kd.C_below HR0.out HB.out)|(with_reducible refine Kd.C_alloc ?_ _)|(with_reducible refine Kd.C_drewN ?_ _)|(with_reducible refine Kd.C_drew ?_)));(case side2 => exact HC0.out);rintro e w16 ⟨v103,rfl,ho0,hb⟩;refine ⟨_,rfl,?_⟩;have n0_:=Aside0.mk (Kd.R_lower ho0 (below_size (by repeat (first|(with_reducible first|exact HB.out|apply below_alloc|apply pw_below_drewN|apply below_drew1|refine below_set ?_ GE101.out)|exact HB.out))));have n1_:=Aside0.mk (blk_below (g:=gb101) (o:=.cells #[.int .i64 a1_0,.bool false,.int .i64 a1_2] 37 (0,0)) (by (with_reducible repeat (first|refine blk_drewN ?_ _|refine blk_drew ?_|refine blk_alloc ?_ _));exact BK101.out) hb);have n2_:=Aside0.mk (below_step (by repeat (first|(with_reducible first|exact HB.out|apply below_alloc|apply pw_below_drewN|apply below_drew1|refine below_set ?_ GE101.out)|exact HB.out)) hb);clear BK101;clear HB;have HO104:=n0_;have BK101:=n1_;have HB:=n2_;clear n0_ n1_ n2_;(try clear hb);(try clear hb2);(try clear hk);(try clear hi);(try clear ho0);obtain ⟨Ao17,co17,eo17⟩:=Kd.R_slice HO104.out;subst eo17;have hcz18_0 : w16.cell? ⟨gb101,0,none⟩ = some (.int .i64 a1_0):=(blk_cell BK101.out 0).trans rfl;have hcz18_1 : w16.cell? ⟨gb101,1,none⟩ = some (.bool false):=(blk_cell BK101.out 1).trans rfl;have hcz18_2 : w16.cell? ⟨gb101,2,none⟩ = some (.int .i64 a1_2):=(blk_cell BK101.out 2).trans rfl;have hfz18_0:=blk_frozen BK101.out 0;have hfz18_1:=blk_frozen BK101.out 1;have hfz18_2:=blk_frozen BK101.out 2))
       go_ret
       exact ⟨by first|rfl|(simp [errW_none,errW_some] <;> rfl)|(simp [*,errW_none,errW_some] <;> rfl),by repeat (first|(with_reducible first|exact HB.out|apply below_alloc|apply pw_below_drewN|apply below_drew1|refine below_set ?_ GE101.out)|exact HB.out)⟩
end Go.Proofs.Ytjnmhpldabbeiaa.Q
end
section
namespace Go.Proofs.Ytjnmhpldabbeiaa.Q
open Go.RowKit Go.Proofs.YtjnmhpldabbeiaaW.PrintWords Go.Proofs.YtjnmhpldabbeiaaW.PrintLast Go.Proofs.YtjnmhpldabbeiaaW.PrintMore
attribute [local go_sem] max2_int min2_int max_two min_two max_three min_three max_four min_four   -- for this text's walks alone
set_option linter.unusedVariables false
set_option linter.unusedSimpArgs false
/-! ### spec_l10Count: function 170 -/
def spec_l10Count.f (l0 : List Int) (s1_0 : Int) (s1_1 : Bool) (s1_2 : Int) : Option (Int × Int × Bool × Int):=(spec_l1Cells.f l0).bind fun t101 => (if s1_1 = true then (some (1,s1_0,s1_1,s1_2)) else (if (t101.length : Int) = 0 then (some (1,s1_0,s1_1,s1_2)) else (if s1_0 = 0 then (none) else (some (wrap64 (Int.tdiv (wrap64 ((wrap64 ((t101.length : Int) + s1_0)) - 1)) s1_0),s1_0,s1_1,s1_2)))))
set_option maxHeartbeats 8000000 in
set_option maxRecDepth 100000 in
theorem spec_l10Count.calls (A0 : Option Addr) (c0 : Nat) (l0 : List Int) (g : Nat) (s1_0 : Int) (s1_1 : Bool) (s1_2 : Int) (r1 : Int) (r2 : Int) (r3 : Bool) (r4 : Int) (w0 w : World) (hI : IsS37 w0 w g s1_0 s1_1 s1_2) (hB : Below w0.heap.size w0 w) (hr0 : Kd.C (Kd.int .u8) w A0 l0.length l0) (hc0 : l0.length ≤ c0) (hf0 : ∀ ad,A0 = some ad → 0 < l0.length → ad.block ≠ g) (h : spec_l10Count.f l0 s1_0 s1_1 s1_2 = some (r1,r2,r3,r4)) :
 Calls Try.prog 170 #[.slice A0 l0.length c0,.pointer (some ⟨g,0,none⟩)] w fun e w' => e = .returned (.int .i64 r1) ∧ IsS37 w0 w' g r2 r3 r4 ∧ Below w0.heap.size w0 w' ∧ KeepBut w w' g none:=by
 have HR0:=Aside0.mk hr0
 have HC0:=Aside0.mk hc0
 clear hr0 hc0
 have HI1:=Aside0.mk hI
 have HK:=Aside0.mk (KeepBut.refl w g none)
 have HL:=Aside0.mk hB.size
 clear hI
 have HW0:=Aside0.mk hB.size
 have HB:=Aside0.mk hB
 clear hB
 have H : ((spec_l1Cells.f l0).bind fun t101 => (if s1_1 = true then (some (1,s1_0,s1_1,s1_2)) else (if (t101.length : Int) = 0 then (some (1,s1_0,s1_1,s1_2)) else (if s1_0 = 0 then (none) else (some (wrap64 (Int.tdiv (wrap64 ((wrap64 ((t101.length : Int) + s1_0)) - 1)) s1_0),s1_0,s1_1,s1_2)))))) = some (r1,r2,r3,r4):=h
 clear h
 replace H:=Option.bind_eq_some_iff.mp H
 obtain ⟨t101,A30,H⟩:=H
 replace H : (if s1_1 = true then (some (1,s1_0,s1_1,s1_2)) else (if (t101.length : Int) = 0 then (some (1,s1_0,s1_1,s1_2)) else (if s1_0 = 0 then (none) else (some (wrap64 (Int.tdiv (wrap64 ((wrap64 ((t101.length : Int) + s1_0)) - 1)) s1_0),s1_0,s1_1,s1_2))))) = some (r1,r2,r3,r4):=H
 have A3:=Aside0.mk A30
 clear A30
 by_cases c4 : s1_1 = true
 · subst c4
   have H1 : (some (1,s1_0,true,s1_2)) = some (r1,r2,r3,r4):=by rw [if_pos rfl] at H;exact H
   clear H
   have H:=H1
   clear H1
   simp only [Option.some.injEq,Prod.mk.injEq] at H
   obtain ⟨rfl,rfl,rfl,rfl⟩:=H
   go_enter Try.func170,Try.ntmps170
   go_wp2_with (first|(go_at_call 194;(with_reducible refine (spec_l1Cells.calls _ _ l0 t101 _ ?side1 ?side2 A3.out).mono ?_);(case side1 => exact Kd.C_keep 0 HR0.out (by repeat (first|(with_reducible first|exact HK.out|apply KeepBut.set_|apply keep_drewN|apply keep_drew|apply keep_alloc)|exact HK.out)) hf0);(case side2 => exact HC0.out);rintro e w5 ⟨v102,rfl,ho0,hb⟩;have n0_:=Aside0.mk (Kd.R_lower ho0 (keep_size (w:=w) (g:=g) (row:=none) (by repeat (first|(with_reducible first|exact HK.out|apply KeepBut.set_|apply keep_drewN|apply keep_drew|apply keep_alloc)|exact HK.out))));have n1_:=Aside0.mk (IsS37.below (by repeat (first|(with_reducible first|exact HI1.out|apply IsS37.alloc|apply IsS37.drewN|apply IsS37.drew|apply IsS37.set_0|apply IsS37.set_1|apply IsS37.set_2)|exact HI1.out)) hb);have n2_:=Aside0.mk (KeepBut.trans (by repeat (first|(with_reducible first|exact HK.out|apply KeepBut.set_|apply keep_drewN|apply keep_drew|apply keep_alloc)|exact HK.out)) (KeepBut.of_below hb g none) (.inl rfl));have n3_:=Aside0.mk (below_step (by repeat (first|(with_reducible first|exact HB.out|apply below_alloc|apply pw_below_drewN|apply below_drew1|refine below_set ?_ (IsS37.ge HI1.out))|exact HB.out)) hb);clear HI1;clear HK;clear HB;have HO103:=n0_;have HI1:=n1_;have HK:=n2_;have HB:=n3_;clear n0_ n1_ n2_ n3_;(try clear hb);(try clear hb2);(try clear hk);(try clear hi);(try clear ho0);obtain ⟨Ao6,co6,eo6⟩:=Kd.R_slice HO103.out;subst eo6;obtain ⟨HGz7,hgz7⟩:=HI1.out;have hcz7_0:=cellS37_0 HGz7;have hcz7_1:=cellS37_1 HGz7;have hcz7_2:=cellS37_2 HGz7;have hfz7_0:=blk_frozen HGz7 0;have hfz7_1:=blk_frozen HGz7 1;have hfz7_2:=blk_frozen HGz7 2;clear HGz7 hgz7))
   repeat (go_quiet (first|(go_at_call 194;(with_reducible refine (spec_l1Cells.calls _ _ l0 t101 _ ?side1 ?side2 A3.out).mono ?_);(case side1 => exact Kd.C_keep 0 HR0.out (by repeat (first|(with_reducible first|exact HK.out|apply KeepBut.set_|apply keep_drewN|apply keep_drew|apply keep_alloc)|exact HK.out)) hf0);(case side2 => exact HC0.out);rintro e w5 ⟨v102,rfl,ho0,hb⟩;have n0_:=Aside0.mk (Kd.R_lower ho0 (keep_size (w:=w) (g:=g) (row:=none) (by repeat (first|(with_reducible first|exact HK.out|apply KeepBut.set_|apply keep_drewN|apply keep_drew|apply keep_alloc)|exact HK.out))));have n1_:=Aside0.mk (IsS37.below (by repeat (first|(with_reducible first|exact HI1.out|apply IsS37.alloc|apply IsS37.drewN|apply IsS37.drew|apply IsS37.set_0|apply IsS37.set_1|apply IsS37.set_2)|exact HI1.out)) hb);have n2_:=Aside0.mk (KeepBut.trans (by repeat (first|(with_reducible first|exact HK.out|apply KeepBut.set_|apply keep_drewN|apply keep_drew|apply keep_alloc)|exact HK.out)) (KeepBut.of_below hb g none) (.inl rfl));have n3_:=Aside0.mk (below_step (by repeat (first|(with_reducible first|exact HB.out|apply below_alloc|apply pw_below_drewN|apply below_drew1|refine below_set ?_ (IsS37.ge HI1.out))|exact HB.out)) hb);clear HI1;clear HK;clear HB;have HO103:=n0_;have HI1:=n1_;have HK:=n2_;have HB:=n3_;clear n0_ n1_ n2_ n3_;(try clear hb);(try clear hb2);(try clear hk);(try clear hi);(try clear ho0);obtain ⟨Ao6,co6,eo6⟩:=Kd.R_slice HO103.out;subst eo6;obtain ⟨HGz7,hgz7⟩:=HI1.out;have hcz7_0:=cellS37_0 HGz7;have hcz7_1:=cellS37_1 HGz7;have hcz7_2:=cellS37_2 HGz7;have hfz7_0:=blk_frozen HGz7 0;have hfz7_1:=blk_frozen HGz7 1;have hfz7_2:=blk_frozen HGz7 2;clear HGz7 hgz7));try go_wp2_with (first|(go_at_call 194;(with_reducible refine (spec_l1Cells.calls _ _ l0 t101 _ ?side1 ?side2 A3.out).mono ?_);(case side1 => exact Kd.C_keep 0 HR0.out (by repeat (first|(with_reducible first|exact HK.out|apply KeepBut.set_|apply keep_drewN|apply keep_drew|apply keep_alloc)|exact HK.out)) hf0);(case side2 => exact HC0.out);rintro e w5 ⟨v102,rfl,ho0,hb⟩;have n0_:=Aside0.mk (Kd.R_lower ho0 (keep_size (w:=w) (g:=g) (row:=none) (by repeat (first|(with_reducible first|exact HK.out|apply KeepBut.set_|apply keep_drewN|apply keep_drew|apply keep_alloc)|exact HK.out))));have n1_:=Aside0.mk (IsS37.below (by repeat (first|(with_reducible first|exact HI1.out|apply IsS37.alloc|apply IsS37.drewN|apply IsS37.drew|apply IsS37.set_0|apply IsS37.set_1|apply IsS37.set_2)|exact HI1.out)) hb);have n2_:=Aside0.mk (KeepBut.trans (by repeat (first|(with_reducible first|exact HK.out|apply KeepBut.set_|apply keep_drewN|apply keep_drew|apply keep_alloc)|exact HK.out)) (KeepBut.of_below hb g none) (.inl rfl));have n3_:=Aside0.mk (below_step (by repeat (first|(with_reducible first|exact HB.out|apply below_alloc|apply pw_below_drewN|apply below_drew1|refine below_set ?_ (IsS37.ge HI1.out))|exact HB.out)) hb);clear HI1;clear HK;clear HB;have HO103:=n0_;have HI1:=n1_;have HK:=n2_;have HB:=n3_;clear n0_ n1_ n2_ n3_;(try clear hb);(try clear hb2);(try clear hk);(try clear hi);(try clear ho0);obtain ⟨Ao6,co6,eo6⟩:=Kd.R_slice HO103.out;subst eo6;obtain ⟨HGz7,hgz7⟩:=HI1.out;have hcz7_0:=cellS37_0 HGz7;have hcz7_1:=cellS37_1 HGz7;have hcz7_2:=cellS37_2 HGz7;have hfz7_0:=blk_frozen HGz7 0;have hfz7_1:=blk_frozen HGz7 1;have hfz7_2:=blk_frozen HGz7 2;clear HGz7 hgz7)))
   go_ret
   exact ⟨by first|rfl|(simp [errW_none,errW_some] <;> rfl)|(simp [*,errW_none,errW_some] <;> rfl),by repeat (first|(with_reducible first|exact HI1.out|apply IsS37.alloc|apply IsS37.drewN|apply IsS37.drew|apply IsS37.set_0|apply IsS37.set_1|apply IsS37.set_2)|exact HI1.out),by repeat (first|(with_reducible first|exact HB.out|apply below_alloc|apply pw_below_drewN|apply below_drew1|refine below_set ?_ (IsS37.ge HI1.out))|exact HB.out),by repeat (first|(with_reducible first|exact HK.out|apply KeepBut.set_|apply keep_drewN|apply keep_drew|apply keep_alloc)|exact HK.out)⟩
 · replace c4:=Bool.eq_false_iff.mpr c4
   subst c4
   have H1 : (if (t101.length : Int) = 0 then (some (1,s1_0,false,s1_2)) else (if s1_0 = 0 then (none) else (some (wrap64 (Int.tdiv (wrap64 ((wrap64 ((t101.length : Int) + s1_0)) - 1)) s1_0),s1_0,false,s1_2)))) = some (r1,r2,r3,r4):=by rw [if_neg (show ¬ (false = true) by decide)] at H;exact H
   clear H
   have H:=H1
   clear H1
   by_cases c8 : (t101.length : Int) = 0
   · rw [if_pos c8] at H
     have c8b0 : ((t101.length : Int) == 0) = true:=beq_iff_eq.mpr c8
     have c8b1 : ((t101.length : Int) != 0) = false:=bne_eq_false_iff_eq.mpr c8
     clear c8
     simp only [Option.some.injEq,Prod.mk.injEq] at H
     obtain ⟨rfl,rfl,rfl,rfl⟩:=H
     go_enter Try.func170,Try.ntmps170
     go_wp2_with (first|(go_at_call 194;(with_reducible refine (spec_l1Cells.calls _ _ l0 t101 _ ?side1 ?side2 A3.out).mono ?_);(case side1 => exact Kd.C_keep 0 HR0.out (by repeat (first|(with_reducible first|exact HK.out|apply KeepBut.set_|apply keep_drewN|apply keep_drew|apply keep_alloc)|exact HK.out)) hf0);(case side2 => exact HC0.out);rintro e w9 ⟨v102,rfl,ho0,hb⟩;have n0_:=Aside0.mk (Kd.R_lower ho0 (keep_size (w:=w) (g:=g) (row:=none) (by repeat (first|(with_reducible first|exact HK.out|apply KeepBut.set_|apply keep_drewN|apply keep_drew|apply keep_alloc)|exact HK.out))));have n1_:=Aside0.mk (IsS37.below (by repeat (first|(with_reducible first|exact HI1.out|apply IsS37.alloc|apply IsS37.drewN|apply IsS37.drew|apply IsS37.set_0|apply IsS37.set_1|apply IsS37.set_2)|exact HI1.out)) hb);have n2_:=Aside0.mk (KeepBut.trans (by repeat (first|(with_reducible first|exact HK.out|apply KeepBut.set_|apply keep_drewN|apply keep_drew|apply keep_alloc)|exact HK.out)) (KeepBut.of_below hb g none) (.inl rfl));have n3_:=Aside0.mk (below_step (by repeat (first|(with_reducible first|exact HB.out|apply below_alloc|apply pw_below_drewN|apply below_drew1|refine below_set ?_ (IsS37.ge HI1.out))|exact HB.out)) hb);clear HI1;clear HK;clear HB;have HO103:=n0_;have HI1:=n1_;have HK:=n2_;have HB:=n3_;clear n0_ n1_ n2_ n3_;(try clear hb);(try clear hb2);(try clear hk);(try clear hi);(try clear ho0);obtain ⟨Ao10,co10,eo10⟩:=Kd.R_slice HO103.out;subst eo10;obtain ⟨HGz11,hgz11⟩:=HI1.out;have hcz11_0:=cellS37_0 HGz11;have hcz11_1:=cellS37_1 HGz11;have hcz11_2:=cellS37_2 HGz11;have hfz11_0:=blk_frozen HGz11 0;have hfz11_1:=blk_frozen HGz11 1;have hfz11_2:=blk_frozen HGz11 2;clear HGz11 hgz11))
     repeat (go_quiet (first|(go_at_call 194;(with_reducible refine (spec_l1Cells.calls _ _ l0 t101 _ ?side1 ?side2 A3.out).mono ?_);(case side1 => exact Kd.C_keep 0 HR0.out (by repeat (first|(with_reducible first|exact HK.out|apply KeepBut.set_|apply keep_drewN|apply keep_drew|apply keep_alloc)|exact HK.out)) hf0);(case side2 => exact HC0.out);rintro e w9 ⟨v102,rfl,ho0,hb⟩;have n0_:=Aside0.mk (Kd.R_lower ho0 (keep_size (w:=w) (g:=g) (row:=none) (by repeat (first|(with_reducible first|exact HK.out|apply KeepBut.set_|apply keep_drewN|apply keep_drew|apply keep_alloc)|exact HK.out))));have n1_:=Aside0.mk (IsS37.below (by repeat (first|(with_reducible first|exact HI1.out|apply IsS37.alloc|apply IsS37.drewN|apply IsS37.drew|apply IsS37.set_0|apply IsS37.set_1|apply IsS37.set_2)|exact HI1.out)) hb);have n2_:=Aside0.mk (KeepBut.trans (by repeat (first|(with_reducible first|exact HK.out|apply KeepBut.set_|apply keep_drewN|apply keep_drew|apply keep_alloc)|exact HK.out)) (KeepBut.of_below hb g none) (.inl rfl));have n3_:=Aside0.mk (below_step (by repeat (first|(with_reducible first|exact HB.out|apply below_alloc|apply pw_below_drewN|apply below_drew1|refine below_set ?_ (IsS37.ge HI1.out))|exact HB.out)) hb);clear HI1;clear HK;clear HB;have HO103:=n0_;have HI1:=n1_;have HK:=n2_;have HB:=n3_;clear n0_ n1_ n2_ n3_;(try clear hb);(try clear hb2);(try clear hk);(try clear hi);(try clear ho0);obtain ⟨Ao10,co10,eo10⟩:=Kd.R_slice HO103.out;subst eo10;obtain ⟨HGz11,hgz11⟩:=HI1.out;have hcz11_0:=cellS37_0 HGz11;have hcz11_1:=cellS37_1 HGz11;have hcz11_2:=cellS37_2 HGz11;have hfz11_0:=blk_frozen HGz11 0;have hfz11_1:=blk_frozen HGz11 1;have hfz11_2:=blk_frozen HGz11 2;clear HGz11 hgz11));try go_wp2_with (first|(go_at_call 194;(with_reducible refine (spec_l1Cells.calls _ _ l0 t101 _ ?side1 ?side2 A3.out).mono ?_);(case side1 => exact Kd.C_keep 0 HR0.out (by repeat (first|(with_reducible first|exact HK.out|apply KeepBut.set_|apply keep_drewN|apply keep_drew|apply keep_alloc)|exact HK.out)) hf0);(case side2 => exact HC0.out);rintro e w9 ⟨v102,rfl,ho0,hb⟩;have n0_:=Aside0.mk (Kd.R_lower ho0 (keep_size (w:=w) (g:=g) (row:=none) (by repeat (first|(with_reducible first|exact HK.out|apply KeepBut.set_|apply keep_drewN|apply keep_drew|apply keep_alloc)|exact HK.out))));have n1_:=Aside0.mk (IsS37.below (by repeat (first|(with_reducible first|exact HI1.out|apply IsS37.alloc|apply IsS37.drewN|apply IsS37.drew|apply IsS37.set_0|apply IsS37.set_1|apply IsS37.set_2)|exact HI1.out)) hb);have n2_:=Aside0.mk (KeepBut.trans (by repeat (first|(with_reducible first|exact HK.out|apply KeepBut.set_|apply keep_drewN|apply keep_drew|apply keep_alloc)|exact HK.out)) (KeepBut.of_below hb g none) (.inl rfl));have n3_:=Aside0.mk (below_step (by repeat (first|(with_reducible first|exact HB.out|apply below_alloc|apply pw_below_drewN|apply below_drew1|refine below_set ?_ (IsS37.ge HI1.out))|exact HB.out)) hb);clear HI1;clear HK;clear HB;have HO103:=n0_;have HI1:=n1_;have HK:=n2_;have HB:=n3_;clear n0_ n1_ n2_ n3_;(try clear hb);(try clear hb2);(try clear hk);(try clear hi);(try clear ho0);obtain ⟨Ao10,co10,eo10⟩:=Kd.R_slice HO103.out;subst eo10;obtain ⟨HGz11,hgz11⟩:=HI1.out;have hcz11_0:=cellS37_0 HGz11;have hcz11_1:=cellS37_1 HGz11;have hcz11_2:=cellS37_2 HGz11;have hfz11_0:=blk_frozen HGz11 0;have hfz11_1:=blk_frozen HGz11 1;have hfz11_2:=blk_frozen HGz11 2;clear HGz11 hgz11)))
     go_ret
     exact ⟨by first|rfl|(simp [errW_none,errW_some] <;> rfl)|(simp [*,errW_none,errW_some] <;> rfl),by repeat (first|(with_reducible first|exact HI1.out|apply IsS37.alloc|apply IsS37.drewN|apply IsS37.drew|apply IsS37.set_0|apply IsS37.set_1|apply IsS37.set_2)|exact HI1.out),by repeat (first|(with_reducible first|exact HB.out|apply below_alloc|apply pw_below_drewN|apply below_drew1|refine below_set ?_ (IsS37.ge HI1.out))|exact HB.out),by repeat (first|(with_reducible first|exact HK.out|apply KeepBut.set_|apply keep_drewN|apply keep_drew|apply keep_alloc)|exact HK.out)⟩
   · rw [if_neg c8] at H
     have c8b0 : ((t101.length : Int) == 0) = false:=beq_eq_false_iff_ne.mpr c8
     have c8b1 : ((t101.length : Int) != 0) = true:=bne_iff_ne.mpr c8
     have c8b2 : ¬ (t101 = []):=fun h_ => c8 (by rw [h_];rfl)
     by_cases c12 : s1_0 = 0
     · rw [if_pos c12] at H
       exact absurd H (by simp)
     · rw [if_neg c12] at H
       have c12b0 : (s1_0 == 0) = false:=beq_eq_false_iff_ne.mpr c12
       have c12b1 : (s1_0 != 0) = true:=bne_iff_ne.mpr c12
       simp only [Option.some.injEq,Prod.mk.injEq] at H
       obtain ⟨rfl,rfl,rfl,rfl⟩:=H
       go_enter Try.func170,Try.ntmps170
       go_wp2_with (first|(go_at_call 194;(with_reducible refine (spec_l1Cells.calls _ _ l0 t101 _ ?side1 ?side2 A3.out).mono ?_);(case side1 => exact Kd.C_keep 0 HR0.out (by repeat (first|(with_reducible first|exact HK.out|apply KeepBut.set_|apply keep_drewN|apply keep_drew|apply keep_alloc)|exact HK.out)) hf0);(case side2 => exact HC0.out);rintro e w13 ⟨v102,rfl,ho0,hb⟩;have n0_:=Aside0.mk (Kd.R_lower ho0 (keep_size (w:=w) (g:=g) (row:=none) (by repeat (first|(with_reducible first|exact HK.out|apply KeepBut.set_|apply keep_drewN|apply keep_drew|apply keep_alloc)|exact HK.out))));have n1_:=Aside0.mk (IsS37.below (by repeat (first|(with_reducible first|exact HI1.out|apply IsS37.alloc|apply IsS37.drewN|apply IsS37.drew|apply IsS37.set_0|apply IsS37.set_1|apply IsS37.set_2)|exact HI1.out)) hb);have n2_:=Aside0.mk (KeepBut.trans (by repeat (first|(with_reducible first|exact HK.out|apply KeepBut.set_|apply keep_drewN|apply keep_drew|apply keep_alloc)|exact HK.out)) (KeepBut.of_below hb g none) (.inl rfl));have n3_:=Aside0.mk (below_step (by repeat (first|(with_reducible first|exact HB.out|apply below_alloc|apply pw_below_drewN|apply below_drew1|refine below_set ?_ (IsS37.ge HI1.out))|exact HB.out)) hb);clear HI1;clear HK;clear HB;have HO103:=n0_;have HI1:=n1_;have HK:=n2_;have HB:=n3_;clear n0_ n1_ n2_ n3_;(try clear hb);(try clear hb2);(try clear hk);(try clear hi);(try clear ho0);obtain ⟨Ao14,co14,eo14⟩:=Kd.R_slice HO103.out;subst eo14;obtain ⟨HGz15,hgz15⟩:=HI1.out;have hcz15_0:=cellS37_0 HGz15;have hcz15_1:=cellS37_1 HGz15;have hcz15_2:=cellS37_2 HGz15;have hfz15_0:=blk_frozen HGz15 0;have hfz15_1:=blk_frozen HGz15 1;have hfz15_2:=blk_frozen HGz15 2;clear HGz15 hgz15))
       repeat (go_quiet (first|(go_at_call 194;(with_reducible refine (spec_l1Cells.calls _ _ l0 t101 _ ?side1 ?side2 A3.out).mono ?_);(case side1 => exact Kd.C_keep 0 HR0.out (by repeat (first|(with_reducible first|exact HK.out|apply KeepBut.set_|apply keep_drewN|apply keep_drew|apply keep_alloc)|exact HK.out)) hf0);(case side2 => exact HC0.out);rintro e w13 ⟨v102,rfl,ho0,hb⟩;have n0_:=Aside0.mk (Kd.R_lower ho0 (keep_size (w:=w) (g:=g) (row:=none) (by repeat (first|(with_reducible first|exact HK.out|apply KeepBut.set_|apply keep_drewN|apply keep_drew|apply keep_alloc)|exact HK.out))));have n1_:=Aside0.mk (IsS37.below (by repeat (first|(with_reducible first|exact HI1.out|apply IsS37.alloc|apply IsS37.drewN|apply IsS37.drew|apply IsS37.set_0|apply IsS37.set_1|apply IsS37.set_2)|exact HI1.out)) hb);have n2_:=Aside0.mk (KeepBut.trans (by repeat (first|(with_reducible first|exact HK.out|apply KeepBut.set_|apply keep_drewN|apply keep_drew|apply keep_alloc)|exact HK.out)) (KeepBut.of_below hb g none) (.inl rfl));have n3_:=Aside0.mk (below_step (by repeat (first|(with_reducible first|exact HB.out|apply below_alloc|apply pw_below_drewN|apply below_drew1|refine below_set ?_ (IsS37.ge HI1.out))|exact HB.out)) hb);clear HI1;clear HK;clear HB;have HO103:=n0_;have HI1:=n1_;have HK:=n2_;have HB:=n3_;clear n0_ n1_ n2_ n3_;(try clear hb);(try clear hb2);(try clear hk);(try clear hi);(try clear ho0);obtain ⟨Ao14,co14,eo14⟩:=Kd.R_slice HO103.out;subst eo14;obtain ⟨HGz15,hgz15⟩:=HI1.out;have hcz15_0:=cellS37_0 HGz15;have hcz15_1:=cellS37_1 HGz15;have hcz15_2:=cellS37_2 HGz15;have hfz15_0:=blk_frozen HGz15 0;have hfz15_1:=blk_frozen HGz15 1;have hfz15_2:=blk_frozen HGz15 2;clear HGz15 hgz15));try go_wp2_with (first|(go_at_call 194;(with_reducible refine (spec_l1Cells.calls _ _ l0 t101 _ ?side1 ?side2 A3.out).mono ?_);(case side1 => exact Kd.C_keep 0 HR0.out (by repeat (first|(with_reducible first|exact HK.out|apply KeepBut.set_|apply keep_drewN|apply keep_drew|apply keep_alloc)|exact HK.out)) hf0);(case side2 => exact HC0.out);rintro e w13 ⟨v102,rfl,ho0,hb⟩;have n0_:=Aside0.mk (Kd.R_lower ho0 (keep_size (w:=w) (g:=g) (row:=none) (by repeat (first|(with_reducible first|exact HK.out|apply KeepBut.set_|apply keep_drewN|apply keep_drew|apply keep_alloc)|exact HK.out))));have n1_:=Aside0.mk (IsS37.below (by repeat (first|(with_reducible first|exact HI1.out|apply IsS37.alloc|apply IsS37.drewN|apply IsS37.drew|apply IsS37.set_0|apply IsS37.set_1|apply IsS37.set_2)|exact HI1.out)) hb);have n2_:=Aside0.mk (KeepBut.trans (by repeat (first|(with_reducible first|exact HK.out|apply KeepBut.set_|apply keep_drewN|apply keep_drew|apply keep_alloc)|exact HK.out)) (KeepBut.of_below hb g none) (.inl rfl));have n3_:=Aside0.mk (below_step (by repeat (first|(with_reducible first|exact HB.out|apply below_alloc|apply pw_below_drewN|apply below_drew1|refine below_set ?_ (IsS37.ge HI1.out))|exact HB.out)) hb);clear HI1;clear HK;clear HB;have HO103:=n0_;have HI1:=n1_;have HK:=n2_;have HB:=n3_;clear n0_ n1_ n2_ n3_;(try clear hb);(try clear hb2);(try clear hk);(try clear hi);(try clear ho0);obtain ⟨Ao14,co14,eo14⟩:=Kd.R_slice HO103.out;subst eo14;obtain ⟨HGz15,hgz15⟩:=HI1.out;have hcz15_0:=cellS37_0 HGz15;have hcz15_1:=cellS37_1 HGz15;have hcz15_2:=cellS37_2 HGz15;have hfz15_0:=blk_frozen HGz15 0;have hfz15_1:=blk_frozen HGz15 1;have hfz15_2:=blk_frozen HGz15 2;clear HGz15 hgz15)))
       go_ret
       exact ⟨by first|rfl|(simp [errW_none,errW_some] <;> rfl)|(simp [*,errW_none,errW_some] <;> rfl),by repeat (first|(with_reducible first|exact HI1.out|apply IsS37.alloc|apply IsS37.drewN|apply IsS37.drew|apply IsS37.set_0|apply IsS37.set_1|apply IsS37.set_2)|exact HI1.out),by repeat (first|(with_reducible first|exact HB.out|apply below_alloc|apply pw_below_drewN|apply below_drew1|refine below_set ?_ (IsS37.ge HI1.out))|exact HB.out),by repeat (first|(with_reducible first|exact HK.out|apply KeepBut.set_|apply keep_drewN|apply keep_drew|apply keep_alloc)|exact HK.out)⟩
end Go.Proofs.Ytjnmhpldabbeiaa.Q
end
section
namespace Go.Proofs.Ytjnmhpldabbeiaa.Q
open Go.RowKit Go.Proofs.YtjnmhpldabbeiaaW.PrintWords Go.Proofs.YtjnmhpldabbeiaaW.PrintLast Go.Proofs.YtjnmhpldabbeiaaW.PrintMore Go.Proofs.Ytjnmhpldabbeiaa.L
def layF (wd : Int) (ch : Bool) (sh : Int) : Int := if (1 ≤ wd ∧ wd ≤ 40) ∧ (0 ≤ sh ∧ sh ≤ 400) then (if ch = true ∨ sh = 0 then 0 else 1) else 3
theorem layF_zero {wd : Int} {ch : Bool} {sh : Int} (h : layF wd ch sh = 0) : 1 ≤ wd ∧ wd ≤ 40 ∧ 0 ≤ sh ∧ sh ≤ 400 ∧ (ch = true ∨ sh = 0) := by
  unfold layF at h
  split at h
  · split at h
    · rename_i h1 h2
      exact ⟨h1.1.1, h1.1.2, h1.2.1, h1.2.2, h2⟩
    · cases h
  · cases h
theorem i_layout (wd : Int) (ch : Bool) (sh : Int) : Ev (fun k => impl_LayoutFault.f k wd ch sh) (layF wd ch sh) := by
  unfold impl_LayoutFault.f layF
  simp only [within_eq, Option.bind_some]
  by_cases h1 : 1 ≤ wd ∧ wd ≤ 40
  · rw [show decide (1 ≤ wd ∧ wd ≤ 40) = true from decide_eq_true h1]
    refine Ev.pos rfl (Ev.succ ?_)
    simp only [impl_LayoutFault.j0]
    by_cases h2 : 0 ≤ sh ∧ sh ≤ 400
    · rw [if_pos (show (1 ≤ wd ∧ wd ≤ 40) ∧ (0 ≤ sh ∧ sh ≤ 400) from ⟨h1, h2⟩), show decide (0 ≤ sh ∧ sh ≤ 400) = true from decide_eq_true h2]
      refine Ev.neg (by simp) (Ev.one ?_)
      cases ch <;> by_cases h3 : sh = 0 <;> simp [h3]
    · rw [if_neg (fun h : (1 ≤ wd ∧ wd ≤ 40) ∧ (0 ≤ sh ∧ sh ≤ 400) => h2 h.2), show decide (0 ≤ sh ∧ sh ≤ 400) = false from decide_eq_false h2]
      exact Ev.pos rfl (Ev.now _)
  · rw [if_neg (fun h : (1 ≤ wd ∧ wd ≤ 40) ∧ (0 ≤ sh ∧ sh ≤ 400) => h1 h.1), show decide (1 ≤ wd ∧ wd ≤ 40) = false from decide_eq_false h1]
    refine Ev.neg (by simp) (Ev.succ ?_)
    simp only [impl_LayoutFault.j0]
    exact Ev.pos trivial (Ev.now _)
theorem s_layout (wd : Int) (ch : Bool) (sh : Int) : Ev (fun k => spec_l10Fault.f k wd ch sh) (layF wd ch sh, wd, ch, sh) := by
  unfold spec_l10Fault.f layF
  simp only [l1In_eq, Option.bind_some]
  by_cases h1 : 1 ≤ wd ∧ wd ≤ 40
  · rw [show decide (1 ≤ wd ∧ wd ≤ 40) = true from decide_eq_true h1]
    refine Ev.pos rfl (Ev.succ ?_)
    simp only [spec_l10Fault.j0]
    by_cases h2 : 0 ≤ sh ∧ sh ≤ 400
    · rw [if_pos (show (1 ≤ wd ∧ wd ≤ 40) ∧ (0 ≤ sh ∧ sh ≤ 400) from ⟨h1, h2⟩), show decide (0 ≤ sh ∧ sh ≤ 400) = true from decide_eq_true h2]
      refine Ev.neg (by simp) (Ev.one ?_)
      cases ch <;> by_cases h3 : sh = 0 <;> simp [h3]
    · rw [if_neg (fun h : (1 ≤ wd ∧ wd ≤ 40) ∧ (0 ≤ sh ∧ sh ≤ 400) => h2 h.2), show decide (0 ≤ sh ∧ sh ≤ 400) = false from decide_eq_false h2]
      exact Ev.pos rfl (Ev.now _)
  · rw [if_neg (fun h : (1 ≤ wd ∧ wd ≤ 40) ∧ (0 ≤ sh ∧ sh ≤ 400) => h1 h.1), show decide (1 ≤ wd ∧ wd ≤ 40) = false from decide_eq_false h1]
    refine Ev.neg (by simp) (Ev.succ ?_)
    simp only [spec_l10Fault.j0]
    exact Ev.pos trivial (Ev.now _)
/-- How many rows a line of so many cells has. -/
def rowN (n : Nat) (wd : Int) (ch : Bool) : Int := if ch = true then 1 else if (n : Int) = 0 then 1 else ((n : Int) + wd - 1) / wd
theorem rowN_in {n : Nat} {wd : Int} (ch : Bool) (h0 : 1 ≤ wd) : 1 ≤ rowN n wd ch ∧ rowN n wd ch ≤ n + 1 := by
  unfold rowN
  split
  · omega
  · split
    · omega
    · have h1 : 1 ≤ ((n : Int) + wd - 1) / wd := by
        rw [Int.le_ediv_iff_mul_le (by omega)]
        omega
      have h2 : ((n : Int) + wd - 1) / wd ≤ n := by
        apply Int.ediv_le_of_le_mul (by omega)
        have : (n : Int) * 1 ≤ n * wd := Int.mul_le_mul_of_nonneg_left h0 (by omega)
        have h3 : (n : Int) * wd = (n : Int) * (wd - 1) + n := by rw [Int.mul_sub, Int.mul_one]; omega
        have h4 : 1 * (wd - 1) ≤ (n : Int) * (wd - 1) := Int.mul_le_mul_of_nonneg_right (by omega) (by omega)
        omega
      omega
theorem rowW (n : Nat) (hn : n ≤ 16777216) (wd : Int) (h0 : 1 ≤ wd) (h1 : wd ≤ 40) : wrap64 (Int.tdiv (wrap64 ((wrap64 ((n : Int) + wd)) - 1)) wd) = ((n : Int) + wd - 1) / wd := by
  rw [w64 (x := (n : Int) + wd) (by omega) (by omega), w64 (x := (n : Int) + wd - 1) (by omega) (by omega), Int.tdiv_eq_ediv_of_nonneg (by omega)]
  have a : 0 ≤ ((n : Int) + wd - 1) / wd := Int.ediv_nonneg (by omega) (by omega)
  have b : ((n : Int) + wd - 1) / wd ≤ (n : Int) + wd - 1 := Int.ediv_le_self _ (by omega)
  exact w64 (by omega) (by omega)
theorem i_rowN (l : List Int) (ho : M.lineOk l = true) (wd : Int) (ch : Bool) (sh : Int) (h0 : 1 ≤ wd) (h1 : wd ≤ 40) : impl_rowCount.f l wd ch sh = some (rowN (cellsS l).length wd ch) := by
  have hl := M.lineOk_len ho
  have hc := cellsS_len l
  unfold impl_rowCount.f impl_cells.f spec_l1Cells.f rowN
  rw [if_pos ho]
  simp only [Option.bind_some]
  cases ch with
  | true => rfl
  | false =>
    simp only [Bool.false_eq_true, if_false]
    by_cases h : ((cellsS l).length : Int) = 0
    · rw [if_pos h, if_pos h]
    · rw [if_neg h, if_neg h, if_neg (by omega), rowW _ (by omega) wd h0 h1]
theorem s_rowN (l : List Int) (ho : M.lineOk l = true) (wd : Int) (ch : Bool) (sh : Int) (h0 : 1 ≤ wd) (h1 : wd ≤ 40) : spec_l10Count.f l wd ch sh = some (rowN (cellsS l).length wd ch, wd, ch, sh) := by
  have hl := M.lineOk_len ho
  have hc := cellsS_len l
  unfold spec_l10Count.f spec_l1Cells.f rowN
  rw [if_pos ho]
  simp only [Option.bind_some]
  cases ch with
  | true => rfl
  | false =>
    simp only [Bool.false_eq_true, if_false]
    by_cases h : ((cellsS l).length : Int) = 0
    · rw [if_pos h, if_pos h]
    · rw [if_neg h, if_neg h, if_neg (by omega), rowW _ (by omega) wd h0 h1]
end Go.Proofs.Ytjnmhpldabbeiaa.Q
end
section
namespace Go.Proofs.Ytjnmhpldabbeiaa.M
open Go.RowKit Go.Proofs.Ytjnmhpldabbeiaa.Q Go.Proofs.YtjnmhpldabbeiaaW.PrintWords Go.Proofs.YtjnmhpldabbeiaaW.PrintLast Go.Proofs.YtjnmhpldabbeiaaW.PrintMore
/-- How many rows a line has. -/
def cntS (l : List Int) (wd : Int) (ch : Bool) (s : S222) : Int := rowN (cellsS (subL l s.f0.toNat s.f1.toNat)).length wd ch
def cntL (l : List Int) (wd : Int) (ch : Bool) : List Int := (linL l).map (cntS l wd ch)
theorem lineOk_sub {l : List Int} (h : lineOk l = true) (a b : Nat) : lineOk (subL l a b) = true := by
  simp only [lineOk, Bool.and_eq_true, List.all_eq_true, decide_eq_true_eq] at h ⊢
  refine ⟨?_, fun x hx => h.2 x (List.mem_of_mem_take (List.mem_of_mem_drop hx))⟩
  rw [subL, List.length_drop, List.length_take]
  omega
theorem below_keep {w0 w w' : World} {g : Nat} (hb : Below w0.heap.size w0 w) (hb' : Below w0.heap.size w0 w') (hk : KeepBut w w' g none) (e : w'.heap[g]? = w.heap[g]?) : Below w.heap.size w w' :=
  ⟨hb'.os.trans hb.os.symm, hb'.tape.trans hb.tape.symm, hb'.output.trans hb.output.symm, hk.1, fun k hk' => by
    by_cases h : k = g
    · rw [h, e]
    · exact hk.2 k hk' h (by simp)⟩
/-- How many rows a line has, by the reference. -/
theorem l10Count_c (A : Option Addr) (n c : Nat) (l : List Int) (g : Nat) (wd : Int) (ch : Bool) (sh : Int) (w : World) (hn : l.length = n) (hx : Row eU 1 w A l) (hc : n ≤ c) (ho : lineOk l = true) (hg : g < w.heap.size) (hI : w.heap[g]? = some (.cells #[.int .i64 wd, .bool ch, .int .i64 sh] 37 (0, 0))) (hne : ∀ ad, A = some ad → 0 < n → ad.block ≠ g) (h1 : 1 ≤ wd) (h2 : wd ≤ 40) (q : Int) (hq : rowN (cellsS l).length wd ch = q)
    (R : Ending → World → Prop) (h : ∀ w', Below w.heap.size w w' → R (.returned (.int .i64 q)) w') :
    Calls Try.prog 170 #[.slice A n c, .pointer (some ⟨g, 0, none⟩)] w R := by
  subst hn
  obtain ⟨w0, hw0⟩ : ∃ w0 : World, w0 = { w with heap := #[] } := ⟨_, rfl⟩
  have hs : w0.heap.size = 0 := by rw [hw0]; rfl
  have hB : Below w0.heap.size w0 w := by subst hw0; exact ⟨rfl, rfl, rfl, Nat.zero_le _, fun k hk => absurd hk (Nat.not_lt_zero k)⟩
  refine (spec_l10Count.calls A c l g wd ch sh q wd ch sh w0 w ⟨hI, by omega⟩ hB (C_ints (by have := lineOk_len ho; omega) hx) hc hne (by rw [s_rowN l ho wd ch sh h1 h2, hq])).mono ?_
  rintro e w' ⟨rfl, hI', hb', hk⟩
  exact h w' (below_keep hB hb' hk (hI'.1.trans hI.symm))
set_option maxRecDepth 20000 in
set_option maxHeartbeats 4000000 in
theorem l10Counts_c (gf gl : Nat) (A : Option Addr) (n c : Nat) (l : List Int) (wd : Int) (ch : Bool) (sh : Int) (w : World) (hp : w.cell? ⟨gf, 0, none⟩ = some (.slice A n c)) (hI : w.heap[gl]? = some (.cells #[.int .i64 wd, .bool ch, .int .i64 sh] 37 (0, 0))) (hn : l.length = n) (hx : Row eU 1 w A l) (hc : n ≤ c) (ho : lineOk l = true) (h1 : 1 ≤ wd) (h2 : wd ≤ 40) (hgl : gl < w.heap.size)
    (R : Ending → World → Prop) (h : ∀ A' c' w', Own eI 1 2 w' w.heap.size (.slice A' (cntL l wd ch).length c') (cntL l wd ch) → (cntL l wd ch).length ≤ c' → c' ≤ maxLen → Below w.heap.size w w' → R (.returned (.slice A' (cntL l wd ch).length c')) w') :
    Calls Try.prog 120 #[.pointer (some ⟨gf, 0, none⟩), .pointer (some ⟨gl, 0, none⟩)] w R := by
  have H := Lib.hid h
  have HX := Lib.hid hx
  have HN := Lib.hid hn
  have HO := Lib.hid ho
  have HI := Lib.hid hI
  have hm : n ≤ 1048576 := by rw [← hn]; exact lineOk_len ho
  clear h hx hn ho hI
  obtain ⟨W, hW⟩ : ∃ W, W = w.alloc (Obj.cells #[] 2) := ⟨_, rfl⟩
  have G0 : Below w.heap.size w W := by rw [hW]; (repeat' (first | (with_reducible exact Below.refl _ _) | (with_reducible assumption) | (with_reducible refine Below.alloc ?_ ?_ _) | (with_reducible refine bdN ?_ _) | (with_reducible refine Below.drew ?_) | (with_reducible refine Below.setCell ?_ ?_ _) | go_size))
  have HOW := Lib.hid (show Own eI 1 2 W w.heap.size (.slice (some ⟨w.heap.size, 0, none⟩) 0 0) [] by rw [hW]; exact Own.lit w _ [] 0 (Nat.le_refl _) rfl (by unfold maxLen; omega) ⟨rfl, fun i x hx => by simp at hx⟩)
  have HW := Lib.hid hW
  have hp0 := cell_below G0 hp
  clear hW
  (change Calls _ _ _ _ (Fin R); go_enter Try.func120, Try.ntmps120)
  go_wp2_with (fail)
  rw [← HW.out]
  refine l2Lines_c gf A n c l W hp0 HN.out (HX.out.below G0) hm _ ?_
  intro A1 c1 w1 ho1 hc1 hm1 hb1
  obtain ⟨m, hm'⟩ : ∃ m, (linL l).length = m := ⟨_, rfl⟩
  rw [hm'] at ho1 hc1 ⊢
  have HM := Lib.hid hm'
  have HL1 := Lib.hid ho1
  clear hm' ho1
  have hb1' := G0.trans (hb1.mono G0.size)
  go_wp2_with (fail)
  go_loopg [5, 7] m (fun gk v5 v7 wr => ∃ (i d : Nat) (B : Option Addr), gk = m - i ∧ i ≤ m ∧ v5 = .slice B i d ∧ v7 = .int .i64 i ∧ i ≤ d ∧ d ≤ maxLen ∧ Own eI 1 2 wr w.heap.size (.slice B i d) (((linL l).take i).map (cntS l wd ch)) ∧ Own eLn 2 222 wr W.heap.size (.slice A1 m c1) (linL l) ∧ Below w.heap.size w wr)
  case atStart => exact ⟨0, 0, some ⟨w.heap.size, 0, none⟩, rfl, by omega, rfl, rfl, Nat.le_refl _, by unfold maxLen; omega, HOW.out.below hb1, HL1.out, hb1'⟩
  case round =>
    obtain ⟨i, d, B, rfl, hi, rfl, rfl, hd1, hd2, ho, hl, hG⟩ := hrel
    have HO1 := Lib.hid ho
    have HL2 := Lib.hid hl
    have hp1 := cell_below hG hp
    clear ho hl hp hp0
    by_cases hlt : i < m
    · obtain ⟨s, hs⟩ := get_lt (xs := linL l) (i := i) (by rw [HM.out]; exact hlt)
      obtain ⟨a, b, rfl, hab⟩ := linL_in (List.mem_of_getElem? hs)
      obtain ⟨ad, rfl, ha⟩ := HL2.out.rowOf i _ hs
      obtain ⟨x0, x1⟩ := At.two (a := .int .i64 (a : Int)) (b := .int .i64 (b : Int)) ha
      have HS := Lib.hid hs
      have hab' : a + b ≤ n := by rw [← HN.out]; exact hab
      have HI1 := Lib.hid ((hG.block gl hgl).trans HI.out)
      have hgl1 : gl < wr.heap.size := Nat.lt_of_lt_of_le hgl hG.size
      clear hs hab ha
      go_wp2_with (fail)
      refine l2Line_c gf A n c l wr hp1 HN.out (HX.out.below hG) hc hm a b hab' _ ?_
      intro A2 c2 w2 ho2 hc2 hm2 hb2
      have HR2 := Lib.hid ho2.rowOf
      have hne : ∀ ad, A2 = some ad → 0 < b → ad.block ≠ gl := fun ad' e hb => by
        subst e
        obtain ⟨g2, c2', e2, hg2, _⟩ := ho2.shape (by rw [subL_len (by rw [HN.out]; exact hab')]; exact hb)
        injection e2 with e3
        obtain rfl := Option.some.inj e3
        intro e4
        simp only at e4
        omega
      have HNE := Lib.hid hne
      have hG2 := hG.trans (hb2.mono hG.size)
      have HO2 := Lib.hid (HO1.out.below hb2)
      have HL3 := Lib.hid (HL2.out.below hb2)
      have HI2 := Lib.hid ((hb2.block gl hgl1).trans HI1.out)
      have hgl2 : gl < w2.heap.size := Nat.lt_of_lt_of_le hgl1 hb2.size
      obtain ⟨q, hq⟩ : ∃ q, rowN (cellsS (subL l a b)).length wd ch = q := ⟨_, rfl⟩
      have HQ := Lib.hid hq
      clear ho2 hne hq x0 x1
      go_wp2_with (fail)
      refine l10Count_c A2 b c2 (subL l a b) gl wd ch sh w2 (subL_len (by rw [HN.out]; exact hab')) HR2.out hc2 (lineOk_sub HO.out a b) hgl2 HI2.out HNE.out h1 h2 q HQ.out _ ?_
      intro w3 hb3
      have hG3 := hG2.trans (hb3.mono hG2.size)
      have HO3 := Lib.hid (HO2.out.below hb3)
      have HL4 := Lib.hid (HL3.out.below hb3)
      have hlen : (((linL l).take i).map (cntS l wd ch)).length = i := by rw [List.length_map, List.length_take, HM.out]; omega
      have hml : m ≤ 1048577 := by have := linL_len l; rw [HM.out, HN.out] at this; omega
      have HLN := Lib.hid hlen
      have hbd : (((linL l).take i).map (cntS l wd ch)).length + 1 ≤ 1048577 := by rw [hlen]; omega
      have HBD := Lib.hid hbd
      clear hlen hbd hb2 hb3
      go_wp2_with (first | (at_builtin; refine wp_append1 eI 1 _ w.heap.size rfl _ _ 49 2 2 rfl Try.underlying49 (.int .i64 0) 8 info_eI 0 rfl eI_len (by decide) eI_one _ (((linL l).take i).map (cntS l wd ch)) rfl HO3.out q _ rfl rfl (by have := HBD.out; omega) (by have := HBD.out; unfold maxLen; omega) hG3.size ?_; intro v' w' ho' hg'))
      go_roundg (m - (i + 1))
      case measure => omega
      case rel =>
        obtain ⟨B', d', rfl, e1, e2, _⟩ := ho'.row
        have hll : (((linL l).take i).map (cntS l wd ch) ++ [q]).length = i + 1 := by rw [List.length_append, HLN.out]; rfl
        rw [hll] at e1 ho' ⊢
        refine ⟨i + 1, d', B', rfl, by omega, rfl, by go_num, e1, e2, ?_, HL4.out.grown hg' (HL4.out.apart_ty HO3.out (by decide)), below_own hG3 hg' (fun g e => (HO3.out.lt e).1) hG3.size⟩
        have e4 : ((linL l).take (i + 1)).map (cntS l wd ch) = ((linL l).take i).map (cntS l wd ch) ++ [q] := by
          rw [List.take_add_one, HS.out, List.map_append, ← HQ.out]
          simp [cntS]
        rw [e4]
        exact ho'
    · obtain rfl : i = m := by omega
      have e5 : (linL l).take i = linL l := List.take_of_length_le (by rw [HM.out]; exact Nat.le_refl _)
      have hlen : (cntL l wd ch).length = i := by rw [cntL, List.length_map, HM.out]
      go_wp2_with (fail)
      go_ret
      have ho2 := HO1.out
      rw [e5] at ho2
      have := H.out B d _ (by rw [hlen]; exact ho2) (by rw [hlen]; exact hd1) hd2 hG
      rw [hlen] at this
      exact this
end Go.Proofs.Ytjnmhpldabbeiaa.M
end
section
namespace Go.Proofs.Ytjnmhpldabbeiaa.M
open Go.RowKit Go.Proofs.Ytjnmhpldabbeiaa.Q Go.Proofs.YtjnmhpldabbeiaaW.PrintWords Go.Proofs.YtjnmhpldabbeiaaW.PrintLast Go.Proofs.YtjnmhpldabbeiaaW.PrintMore Go.Proofs.Ytjnmhpldabbeiaa.L
theorem l2Fault_c (g : Nat) (A : Option Addr) (n c : Nat) (w : World) (hp : w.cell? ⟨g, 0, none⟩ = some (.slice A n c)) (hm : n ≤ 1048576) (q : Int) (hq : (if 400 < n then 2 else 0) = q)
    (R : Ending → World → Prop) (h : ∀ w', Below w.heap.size w w' → R (.returned (.int .i64 q)) w') :
    Calls Try.prog 167 #[.pointer (some ⟨g, 0, none⟩)] w R := by
  have H := Lib.hid h
  clear h
  by_cases h4 : 400 < n
  · rw [if_pos h4] at hq
    subst hq
    (change Calls _ _ _ _ (Fin R); go_enter Try.func167, Try.ntmps167)
    go_wp2_with (fail)
    go_ret
    exact H.out _ (by (repeat' (first | (with_reducible exact Below.refl _ _) | (with_reducible assumption) | (with_reducible refine Below.alloc ?_ ?_ _) | (with_reducible refine bdN ?_ _) | (with_reducible refine Below.drew ?_) | (with_reducible refine Below.setCell ?_ ?_ _) | go_size)))
  · rw [if_neg h4] at hq
    subst hq
    (change Calls _ _ _ _ (Fin R); go_enter Try.func167, Try.ntmps167)
    go_wp2_with (fail)
    go_ret
    exact H.out _ (by (repeat' (first | (with_reducible exact Below.refl _ _) | (with_reducible assumption) | (with_reducible refine Below.alloc ?_ ?_ _) | (with_reducible refine bdN ?_ _) | (with_reducible refine Below.drew ?_) | (with_reducible refine Below.setCell ?_ ?_ _) | go_size)))
theorem l10Fault_c (g : Nat) (wd : Int) (ch : Bool) (sh : Int) (w : World) (hI : w.heap[g]? = some (.cells #[.int .i64 wd, .bool ch, .int .i64 sh] 37 (0, 0))) (q : Int) (hq : layF wd ch sh = q)
    (R : Ending → World → Prop) (h : ∀ w', Below w.heap.size w w' → R (.returned (.int .i64 q)) w') :
    Calls Try.prog 168 #[.pointer (some ⟨g, 0, none⟩)] w R := by
  obtain ⟨w0, hw0⟩ : ∃ w0 : World, w0 = { w with heap := #[] } := ⟨_, rfl⟩
  have hs : w0.heap.size = 0 := by rw [hw0]; rfl
  have hB : Below w0.heap.size w0 w := by subst hw0; exact ⟨rfl, rfl, rfl, Nat.zero_le _, fun k hk => absurd hk (Nat.not_lt_zero k)⟩
  obtain ⟨k, hk⟩ := Ev.rounds (s_layout wd ch sh)
  rw [hq] at hk
  refine (spec_l10Fault.calls k g wd ch sh q wd ch sh w0 w ⟨hI, by omega⟩ hB hk).mono ?_
  rintro e w' ⟨rfl, hI', hb', hk⟩
  exact h w' (below_keep hB hb' hk (hI'.1.trans hI.symm))
/-- What is wrong with a file of so many bytes and a layout. -/
def baseF (n : Nat) (wd : Int) (ch : Bool) (sh : Int) : Int := if 400 < n then 2 else layF wd ch sh
theorem l10Base_c (gf gl : Nat) (A : Option Addr) (n c : Nat) (wd : Int) (ch : Bool) (sh : Int) (w : World) (hp : w.cell? ⟨gf, 0, none⟩ = some (.slice A n c)) (hI : w.heap[gl]? = some (.cells #[.int .i64 wd, .bool ch, .int .i64 sh] 37 (0, 0))) (hgl : gl < w.heap.size) (hm : n ≤ 1048576) (q : Int) (hq : baseF n wd ch sh = q)
    (R : Ending → World → Prop) (h : ∀ w', Below w.heap.size w w' → R (.returned (.int .i64 q)) w') :
    Calls Try.prog 118 #[.pointer (some ⟨gf, 0, none⟩), .pointer (some ⟨gl, 0, none⟩)] w R := by
  have H := Lib.hid h
  clear h
  unfold baseF at hq
  by_cases h4 : 400 < n
  · rw [if_pos h4] at hq
    subst hq
    (change Calls _ _ _ _ (Fin R); go_enter Try.func118, Try.ntmps118)
    go_wp2_with (fail)
    refine l2Fault_c gf A n c _ hp hm 2 (if_pos h4) _ ?_
    intro w1 hb1
    go_wp2_with (fail)
    go_ret
    exact H.out _ hb1
  · rw [if_neg h4] at hq
    (change Calls _ _ _ _ (Fin R); go_enter Try.func118, Try.ntmps118)
    go_wp2_with (fail)
    refine l2Fault_c gf A n c _ hp hm 0 (if_neg h4) _ ?_
    intro w1 hb1
    have hI1 := (hb1.block gl hgl).trans hI
    go_wp2_with (fail)
    refine l10Fault_c gl wd ch sh _ hI1 q hq _ ?_
    intro w2 hb2
    go_wp2_with (fail)
    go_ret
    exact H.out _ (hb1.trans (hb2.mono hb1.size))
/-- What is wrong with a spot in lines of so many rows. -/
def spotInF (cs : List Int) (a b : Int) : Int := if cs.length = 0 then (if a = 0 ∧ b = 0 then 0 else 4) else if (0 ≤ a ∧ a < (cs.length : Int)) ∧ (0 ≤ b ∧ b < rd cs a) then 0 else 3
theorem rd_bd {cs : List Int} (h : ∀ x ∈ cs, 1 ≤ x ∧ x ≤ 1073741824) (a : Int) : 0 ≤ rd cs a ∧ rd cs a ≤ 1073741824 := by
  unfold rd
  rw [List.getD_eq_getElem?_getD]
  cases e : cs[a.toNat]? with
  | none => simp
  | some x => have := h x (List.mem_of_getElem? e); simp; omega
theorem cntL_in {l : List Int} (hl : l.length ≤ 1048576) {wd : Int} (ch : Bool) (h1 : 1 ≤ wd) : ∀ x ∈ cntL l wd ch, 1 ≤ x ∧ x ≤ 1073741824 := by
  intro x hx
  rw [cntL] at hx
  obtain ⟨s, hs, rfl⟩ := List.mem_map.mp hx
  have := rowN_in (n := (cellsS (subL l s.f0.toNat s.f1.toNat)).length) ch h1
  have hc := cellsS_len (subL l s.f0.toNat s.f1.toNat)
  have hs2 : (subL l s.f0.toNat s.f1.toNat).length ≤ l.length := by rw [subL, List.length_drop, List.length_take]; omega
  unfold cntS
  omega
theorem cntL_len (l : List Int) (wd : Int) (ch : Bool) : (cntL l wd ch).length ≤ l.length + 1 := by rw [cntL, List.length_map]; exact linL_len l
/-- What is wrong with a file, a layout and a spot. -/
def spotF (l : List Int) (wd : Int) (ch : Bool) (sh a b : Int) : Int := if baseF l.length wd ch sh = 0 then spotInF (cntL l wd ch) a b else baseF l.length wd ch sh
theorem baseF_zero {n : Nat} {wd : Int} {ch : Bool} {sh : Int} (h : baseF n wd ch sh = 0) : n ≤ 400 ∧ layF wd ch sh = 0 := by
  unfold baseF at h
  split at h
  · cases h
  · exact ⟨by omega, h⟩
theorem spotF_base {l : List Int} {wd : Int} {ch : Bool} {sh a b : Int} (h : spotF l wd ch sh a b = 0) : baseF l.length wd ch sh = 0 := by
  unfold spotF at h
  split at h
  · assumption
  · exact h
end Go.Proofs.Ytjnmhpldabbeiaa.M
end
section
namespace Go.Proofs.Ytjnmhpldabbeiaa.Q
open Go.RowKit Go.Proofs.YtjnmhpldabbeiaaW.PrintWords Go.Proofs.YtjnmhpldabbeiaaW.PrintLast Go.Proofs.YtjnmhpldabbeiaaW.PrintMore Go.Proofs.Ytjnmhpldabbeiaa.L
theorem cntOk {l : List Int} (hl : l.length ≤ 1048576) {wd : Int} (ch : Bool) (h1 : 1 ≤ wd) : CntOk (M.cntL l wd ch) :=
  ⟨by have := M.cntL_len l wd ch; omega, fun x hx => (M.cntL_in hl ch h1 x hx).1, fun x hx => (M.cntL_in hl ch h1 x hx).2⟩
end Go.Proofs.Ytjnmhpldabbeiaa.Q
end
section
namespace Go.Proofs.Ytjnmhpldabbeiaa.M
open Go.RowKit Go.Proofs.Ytjnmhpldabbeiaa.Q Go.Proofs.YtjnmhpldabbeiaaW.PrintWords Go.Proofs.YtjnmhpldabbeiaaW.PrintLast Go.Proofs.YtjnmhpldabbeiaaW.PrintMore Go.Proofs.Ytjnmhpldabbeiaa.L
set_option linter.unusedSimpArgs false
set_option linter.unusedVariables false
theorem linesOf_loop (l : List Int) (hl : l.length ≤ 1048576) : ∀ (d i f : Nat) (out : List S222), l.length - i = d → i ≤ l.length → f ≤ i → out.length ≤ i → Ev (fun k => impl_linesOf.l0 k l out (f : Int) l (l.length : Int) (i : Int)) (out ++ lin (l.drop i) i f)
  | 0, i, f, out, hd, hi, hf, ho => by
    obtain rfl : i = l.length := by omega
    refine Ev.succ ?_
    simp only [impl_linesOf.l0]
    refine Ev.neg (by omega) ?_
    rw [List.drop_length, lin]
    by_cases h : f < l.length
    · rw [if_pos h]
      refine Ev.pos (by omega) (Ev.pos (by omega) ?_)
      rw [w64 (by omega) (by omega)]
      exact Ev.now _
    · rw [if_neg h, List.append_nil]
      exact Ev.neg (by omega) (Ev.now _)
  | d + 1, i, f, out, hd, hi, hf, ho => by
    have h : i < l.length := by omega
    refine Ev.succ ?_
    simp only [impl_linesOf.l0, rd_nat l i h]
    refine Ev.pos (by omega) (Ev.pos (by omega) (Ev.pos (by omega) ?_))
    rw [List.drop_eq_getElem_cons h, lin]
    by_cases h10 : l[i] = 10
    · rw [if_pos h10]
      refine Ev.pos h10 (Ev.pos (by omega) ?_)
      rw [w64 (x := (i : Int) - (f : Int)) (by omega) (by omega), w64 (x := (i : Int) + 1) (by omega) (by omega)]
      have := linesOf_loop l hl d (i + 1) (i + 1) (out ++ [⟨(f : Int), (i : Int) - (f : Int)⟩]) (by omega) (by omega) (by omega) (by rw [List.length_append]; simp; omega)
      rw [List.append_assoc] at this
      exact this
    · rw [if_neg h10]
      refine Ev.neg h10 ?_
      rw [w64 (x := (i : Int) + 1) (by omega) (by omega)]
      exact linesOf_loop l hl d (i + 1) f out (by omega) (by omega) (by omega) (by omega)
theorem linesOf_ev (l : List Int) (hl : l.length ≤ 1048576) : Ev (fun k => impl_linesOf.f k l) (linL l) := by
  unfold impl_linesOf.f
  have := linesOf_loop l hl l.length 0 0 [] (by omega) (by omega) (by omega) (by simp)
  rw [List.drop_zero, List.nil_append] at this
  exact this
theorem linesOf_c (A : Option Addr) (n c : Nat) (l : List Int) (w : World) (hn : l.length = n) (hx : Row eU 1 w A l) (hc : n ≤ c) (hm : n ≤ 1048576)
    (R : Ending → World → Prop) (h : ∀ A' c' w', Own eLn 2 222 w' w.heap.size (.slice A' (linL l).length c') (linL l) → (linL l).length ≤ c' → c' ≤ maxLen → Below w.heap.size w w' → R (.returned (.slice A' (linL l).length c')) w') :
    Calls Try.prog 172 #[.slice A n c] w R := by
  subst hn
  obtain ⟨k, hk⟩ := Ev.rounds (linesOf_ev l hm)
  refine (impl_linesOf.calls k A c l (linL l) w (C_ints (by omega) hx) hc hk).mono ?_
  rintro e w' ⟨v, rfl, hR, hb⟩
  have ho := own_of_R (d := k222) (enc := eLn) (f := id) (k := 2) rfl (fun h => k222_openM h) eLn_len hR
  rw [List.map_id] at ho
  obtain ⟨A', c', rfl, h1, h2, _⟩ := ho.row
  exact h A' c' w' ho h1 h2 hb
set_option maxRecDepth 20000 in
set_option maxHeartbeats 2000000 in
theorem lineBytes_c (A : Option Addr) (n c : Nat) (l : List Int) (w : World) (hn : l.length = n) (hx : Row eU 1 w A l) (hc : n ≤ c) (hm : n ≤ 1048576) (a b : Nat) (hab : a + b ≤ n)
    (R : Ending → World → Prop) (h : ∀ A' c' w', Row eU 1 w' A' (subL l a b) → b ≤ c' → Below w.heap.size w w' → R (.returned (.slice A' b c')) w') :
    Calls Try.prog 174 #[.agg #[.slice A n c], .agg #[.int .i64 a, .int .i64 b]] w R := by
  have H := Lib.hid h
  have HX := Lib.hid hx
  have HN := Lib.hid hn
  clear h hx hn
  have hs := Go.Proofs.YtjnmhpldabbeiaaW.PrintWords.cut_mid (P := Try.prog) 101 5 .i64 .i64 Try.underlying101 info_u8e 1 (by kernel_rfl) A n c (a : Int) ((a : Int) + (b : Int)) (by omega) (by omega) (by omega) hc
  have hL : ((a : Int) + (b : Int)).toNat - (a : Int).toNat = b := by omega
  have hmid := (HX.out).mid (c := c) (lo := (a : Int).toNat) (hi := ((a : Int) + (b : Int)).toNat) (by omega) (by rw [HN.out]; omega) (by rw [HN.out]; exact hc)
  rw [hL] at hs
  have e1 : (a : Int).toNat = a := Int.toNat_natCast a
  have e2 : ((a : Int) + (b : Int)).toNat = a + b := by omega
  rw [e2] at hmid
  rw [e1] at hs hmid
  obtain ⟨A2, hA2⟩ : ∃ A2, (if c = a then A else A.map (·.add (a * 1))) = A2 := ⟨_, rfl⟩
  rw [hA2] at hs hmid
  obtain ⟨c2, hc2⟩ : ∃ c2, c - a = c2 := ⟨_, rfl⟩
  rw [hc2] at hs
  have HM := Lib.hid (show Row eU 1 w A2 (subL l a b) from hmid)
  have HCC := Lib.hid (show b ≤ c2 by omega)
  have w1 : wrap64 ((a : Int) + (b : Int)) = (a : Int) + (b : Int) := by unfold wrap64; omega
  clear hmid hL e1 e2 hA2 hc2
  (change Calls _ _ _ _ (Fin R); go_enter Try.func174, Try.ntmps174)
  go_wp2_with (fail)
  go_ret
  exact H.out A2 c2 _ (HM.out.below (by (repeat' (first | (with_reducible exact Below.refl _ _) | (with_reducible assumption) | (with_reducible refine Below.alloc ?_ ?_ _) | (with_reducible refine bdN ?_ _) | (with_reducible refine Below.drew ?_) | (with_reducible refine Below.setCell ?_ ?_ _) | go_size)))) HCC.out (by (repeat' (first | (with_reducible exact Below.refl _ _) | (with_reducible assumption) | (with_reducible refine Below.alloc ?_ ?_ _) | (with_reducible refine bdN ?_ _) | (with_reducible refine Below.drew ?_) | (with_reducible refine Below.setCell ?_ ?_ _) | go_size)))
theorem own_i64 {w : World} {e : TypeId} {base : Nat} {v : Value} {xs : List Int} (h : Kd.R (Kd.int .i64) e w base (fun _ => True) v xs) : Own eI 1 e w base v xs := by
  have := own_of_R (d := Kd.int .i64) (enc := eI) (f := id) (k := 1) rfl (fun h => h) (fun _ => rfl) h
  simpa using this
theorem r_i64 {w : World} {e : TypeId} {base : Nat} {v : Value} {xs : List Int} (h : Own eI 1 e w base v xs) : Kd.R (Kd.int .i64) e w base (fun _ => True) v xs :=
  R_of_own (d := Kd.int .i64) (enc := eI) (f := id) (k := 1) rfl (fun _ _ _ _ => rfl) (fun _ => rfl) (by simpa using h)
/-- How many rows a line has, by the program. -/
theorem rowCount_c (A : Option Addr) (n c : Nat) (l : List Int) (wd : Int) (ch : Bool) (sh : Int) (w : World) (hn : l.length = n) (hx : Row eU 1 w A l) (hc : n ≤ c) (ho : lineOk l = true) (h1 : 1 ≤ wd) (h2 : wd ≤ 40) (q : Int) (hq : rowN (cellsS l).length wd ch = q)
    (R : Ending → World → Prop) (h : ∀ w', Below w.heap.size w w' → R (.returned (.int .i64 q)) w') :
    Calls Try.prog 173 #[.slice A n c, .agg #[.int .i64 wd, .bool ch, .int .i64 sh]] w R := by
  subst hn
  refine (impl_rowCount.calls A c l wd ch sh q w (C_ints (by have := lineOk_len ho; omega) hx) hc (by rw [i_rowN l ho wd ch sh h1 h2, hq])).mono ?_
  rintro e w' ⟨rfl, hb'⟩
  exact h w' hb'
set_option maxRecDepth 20000 in
set_option maxHeartbeats 4000000 in
theorem rowsOf_c (A : Option Addr) (n c : Nat) (l : List Int) (wd : Int) (ch : Bool) (sh : Int) (w : World) (hn : l.length = n) (hx : Row eU 1 w A l) (hc : n ≤ c) (ho : lineOk l = true) (h1 : 1 ≤ wd) (h2 : wd ≤ 40)
    (R : Ending → World → Prop) (h : ∀ A' c' w', Own eI 1 2 w' w.heap.size (.slice A' (cntL l wd ch).length c') (cntL l wd ch) → (cntL l wd ch).length ≤ c' → c' ≤ maxLen → Below w.heap.size w w' → R (.returned (.slice A' (cntL l wd ch).length c')) w') :
    Calls Try.prog 122 #[.agg #[.slice A n c], .agg #[.int .i64 wd, .bool ch, .int .i64 sh]] w R := by
  have H := Lib.hid h
  have HX := Lib.hid hx
  have HN := Lib.hid hn
  have HO := Lib.hid ho
  have hm : n ≤ 1048576 := by rw [← hn]; exact lineOk_len ho
  clear h hx hn ho
  obtain ⟨W, hW⟩ : ∃ W, W = ((w.alloc (Obj.cells #[.slice A n c] 104)).alloc (Obj.cells #[.int .i64 wd, .bool ch, .int .i64 sh] 37)).alloc (Obj.cells #[] 2) := ⟨_, rfl⟩
  obtain ⟨b1, b2, b3, f1, f2, f3, hz, G0⟩ := box3 _ _ _ _ _ _ _ W hW
  have HOW := Lib.hid (show Own eI 1 2 W w.heap.size (.slice (some ⟨w.heap.size + 1 + 1, 0, none⟩) 0 0) [] by
    rw [hW]
    have := Own.lit (enc := eI) (k := 1) (e := 2) (base := w.heap.size) ((w.alloc (Obj.cells #[.slice A n c] 104)).alloc (Obj.cells #[.int .i64 wd, .bool ch, .int .i64 sh] 37)) #[] [] 0 (by simp; omega) rfl (by unfold maxLen; omega) ⟨rfl, fun i x hx => by simp at hx⟩
    simpa using this)
  have HW := Lib.hid hW
  clear hW b3 f1 f2 f3
  (change Calls _ _ _ _ (Fin R); go_enter Try.func122, Try.ntmps122)
  go_wp2_with (fail)
  rw [← HW.out]
  refine linesOf_c A n c l W HN.out (HX.out.below G0) hc hm _ ?_
  intro A1 c1 w1 ho1 hc1 hm1 hb1
  obtain ⟨m, hm'⟩ : ∃ m, (linL l).length = m := ⟨_, rfl⟩
  rw [hm'] at ho1 hc1 ⊢
  have HM := Lib.hid hm'
  have HL1 := Lib.hid ho1
  have hz1 : w.heap.size + 3 ≤ w1.heap.size := by have := hb1.size; omega
  have B1 := Lib.hid (blk_keep b1 (by omega) hb1)
  have B2 := Lib.hid (blk_keep b2 (by omega) hb1)
  have HOW1 := Lib.hid (HOW.out.below hb1)
  have hb1' := G0.trans (hb1.mono G0.size)
  have hWs : w.heap.size + 3 ≤ W.heap.size := by omega
  clear hm' ho1 b1 b2 hb1
  go_wp2_with (fail)
  go_loopg [5, 13] m (fun gk v5 v13 wr => ∃ (i d : Nat) (B : Option Addr), gk = m - i ∧ i ≤ m ∧ v5 = .slice B i d ∧ v13 = .int .i64 i ∧ i ≤ d ∧ d ≤ maxLen ∧ Own eI 1 2 wr w.heap.size (.slice B i d) (((linL l).take i).map (cntS l wd ch)) ∧ Own eLn 2 222 wr W.heap.size (.slice A1 m c1) (linL l) ∧ Hid (∀ i, wr.cell? ⟨w.heap.size, i, none⟩ = #[Value.slice A n c][i]?) ∧ Hid (∀ i, wr.cell? ⟨w.heap.size + 1, i, none⟩ = #[Value.int .i64 wd, .bool ch, .int .i64 sh][i]?) ∧ ((Value.slice B i d).ownBlock ≠ some w.heap.size ∧ (Value.slice B i d).ownBlock ≠ some (w.heap.size + 1)) ∧ Below w.heap.size w wr ∧ w.heap.size + 3 ≤ wr.heap.size)
  case atStart => exact ⟨0, 0, some ⟨w.heap.size + 1 + 1, 0, none⟩, rfl, by omega, rfl, rfl, Nat.le_refl _, by unfold maxLen; omega, HOW1.out, HL1.out, B1.out, B2.out, ⟨by simp [Value.ownBlock]; omega, by simp [Value.ownBlock]⟩, hb1', hz1⟩
  case round =>
    obtain ⟨i, d, B, rfl, hi, rfl, rfl, hd1, hd2, ho, hl, hB1, hB2, hBn, hG, hzr⟩ := hrel
    have HO1 := Lib.hid ho
    have HL2 := Lib.hid hl
    have HBN := Lib.hid hBn
    clear ho hl hBn
    by_cases hlt : i < m
    · obtain ⟨s, hs⟩ := get_lt (xs := linL l) (i := i) (by rw [HM.out]; exact hlt)
      obtain ⟨a, b, rfl, hab⟩ := linL_in (List.mem_of_getElem? hs)
      obtain ⟨ad, rfl, ha⟩ := HL2.out.rowOf i _ hs
      obtain ⟨x0, x1⟩ := At.two (a := .int .i64 (a : Int)) (b := .int .i64 (b : Int)) ha
      have HS := Lib.hid hs
      have hab' : a + b ≤ n := by rw [← HN.out]; exact hab
      obtain ⟨W2, hW2⟩ : ∃ W2, W2 = wr.alloc (Obj.cells #[.int .i64 a, .int .i64 b] 222) := ⟨_, rfl⟩
      obtain ⟨y1, _, yz, Y0⟩ := box1 _ _ _ W2 hW2
      have HW2 := Lib.hid hW2
      have z1 := blk_keep hB1.out (by omega) Y0
      have z2 := blk_keep hB2.out (by omega) Y0
      have hG2 := hG.trans (Y0.mono hG.size)
      have HO2 := Lib.hid (HO1.out.below Y0)
      have HL3 := Lib.hid (HL2.out.below Y0)
      obtain ⟨q, hq⟩ : ∃ q, rowN (cellsS (subL l a b)).length wd ch = q := ⟨_, rfl⟩
      have HQ := Lib.hid hq
      have hml : m ≤ 1048577 := by have := linL_len l; rw [HM.out, HN.out] at this; omega
      have hlen : (((linL l).take i).map (cntS l wd ch)).length = i := by rw [List.length_map, List.length_take, HM.out]; omega
      have HLN := Lib.hid hlen
      have HBD := Lib.hid (show (((linL l).take i).map (cntS l wd ch)).length + 1 ≤ 1048577 by rw [hlen]; omega)
      have HX2 := Lib.hid (show Row eU 1 W2.drew A l from (HX.out.below hG2).keeps (keeps_refl W2))
      have HSB := Lib.hid (subL_len (l := l) (a := a) (b := b) (by rw [HN.out]; exact hab'))
      have HOS := Lib.hid (lineOk_sub HO.out a b)
      clear hs hab ha hW2 hq hlen Y0 hB1 hB2
      go_wp2_with (fail)
      rw [← HW2.out]
      clear x0 x1
      have y_0 : W2.drew.cell? ⟨w.heap.size, 0, none⟩ = some (.slice A n c) := z1 0
      have y_1 : W2.drew.cell? ⟨w.heap.size + 1, 0, none⟩ = some (.int .i64 wd) := z2 0
      have y_2 : W2.drew.cell? ⟨w.heap.size + 1, 1, none⟩ = some (.bool ch) := z2 1
      have y_3 : W2.drew.cell? ⟨w.heap.size + 1, 2, none⟩ = some (.int .i64 sh) := z2 2
      have y_4 : W2.drew.cell? ⟨wr.heap.size, 0, none⟩ = some (.int .i64 a) := y1 0
      have y_5 : W2.drew.cell? ⟨wr.heap.size, 1, none⟩ = some (.int .i64 b) := y1 1
      refine start_ (n := 9) (S := fun w' => w'.cell? ⟨w.heap.size, 0, none⟩ = some (.slice A n c) ∧ w'.cell? ⟨w.heap.size + 1, 0, none⟩ = some (.int .i64 wd) ∧ w'.cell? ⟨w.heap.size + 1, 1, none⟩ = some (.bool ch) ∧ w'.cell? ⟨w.heap.size + 1, 2, none⟩ = some (.int .i64 sh) ∧ w'.cell? ⟨wr.heap.size, 0, none⟩ = some (.int .i64 a) ∧ w'.cell? ⟨wr.heap.size, 1, none⟩ = some (.int .i64 b)) (ds := [7]) #[false, false, false, false, false, false, false, false, false] (by kernel_rfl) rfl rfl ⟨y_0, y_1, y_2, y_3, y_4, y_5⟩ (fun hHeld => ?_)
      refine pure_ (i := 0) (N := some 17) (v := ?_) (a' := ?_) #[true, false, false, false, false, false, false, false, false] rfl rfl (by kernel_rfl) (fun _ _ _ h => h) (Or.inl ⟨by rfl, ?_⟩) ?_ ?_
      rotate_left
      · intro w'
        go_simp
        with_reducible rfl
      rotate_left
      · simp only [Act.put, List.setIfInBounds_toArray, List.set_cons_zero, List.set_cons_succ, i64_w, i32_w]
        rfl
      refine take_ (i := 1) (N := some 18) (v := ?_) (a' := ?_) #[true, true, false, false, false, false, false, false, false] rfl rfl (by kernel_rfl) (fun _ _ _ h => h) (Or.inl ⟨by rfl, ?_⟩) hHeld ?_ ?_
      rotate_left
      · rintro w' ⟨s0, s1, s2, s3, s4, s5⟩
        go_simp
        with_reducible rfl
      rotate_left
      · simp only [Act.put, List.setIfInBounds_toArray, List.set_cons_zero, List.set_cons_succ, i64_w, i32_w]
        rfl
      refine take_ (i := 2) (N := some 19) (v := ?_) (a' := ?_) #[true, true, true, false, false, false, false, false, false] rfl rfl (by kernel_rfl) (fun _ _ _ h => h) (Or.inl ⟨by rfl, ?_⟩) hHeld ?_ ?_
      rotate_left
      · rintro w' ⟨s0, s1, s2, s3, s4, s5⟩
        go_simp
        with_reducible rfl
      rotate_left
      · simp only [Act.put, List.setIfInBounds_toArray, List.set_cons_zero, List.set_cons_succ, i64_w, i32_w]
        rfl
      refine take_ (i := 4) (N := some 21) (v := ?_) (a' := ?_) #[true, true, true, false, true, false, false, false, false] rfl rfl (by kernel_rfl) (fun _ _ _ h => h) (Or.inl ⟨by rfl, ?_⟩) hHeld ?_ ?_
      rotate_left
      · rintro w' ⟨s0, s1, s2, s3, s4, s5⟩
        go_simp
        with_reducible rfl
      rotate_left
      · simp only [Act.put, List.setIfInBounds_toArray, List.set_cons_zero, List.set_cons_succ, i64_w, i32_w]
        rfl
      refine one_ (i := 3) (N := some 20) #[true, true, true, true, true, false, false, false, false] rfl rfl (by kernel_rfl) (by decide) (fun K hK => ?_)
      refine goes_ Try.func174 (by kernel_rfl) rfl #[.agg #[.slice A n c], .agg #[.int .i64 a, .int .i64 b]] (by rfl) rfl rfl (by simp only [List.map_toArray, List.map_cons, List.map_nil]; rfl) ?_
      refine lineBytes_c A n c l _ HN.out HX2.out hc hm a b hab' _ ?_
      intro A2 c2 w3 hr2 hc2 hb3
      refine ⟨_, rfl, ?_⟩
      have hG3 := hG2.trans ((below_drew hb3).mono hG2.size)
      have HO3 := Lib.hid (HO2.out.below (below_drew hb3))
      have HL4 := Lib.hid (HL3.out.below (below_drew hb3))
      have HR2 := Lib.hid hr2
      have hz3 : W2.heap.size ≤ w3.heap.size := (below_drew hb3).size
      have k0 := cell_below hb3 y_0
      have k1 := cell_below hb3 y_1
      have k2 := cell_below hb3 y_2
      have k3 := cell_below hb3 y_3
      have k4 := cell_below hb3 y_4
      have k5 := cell_below hb3 y_5
      refine hK.out _ _ ⟨k0, k1, k2, k3, k4, k5⟩ (fun hHeld => ?_)
      clear hK K
      refine norm_ (a' := ?_) ?_ ?_
      rotate_left
      · show Act.put _ (some 20) _ = _
        simp only [Act.put, List.setIfInBounds_toArray, List.set_cons_zero, List.set_cons_succ, i64_w, i32_w]
        rfl
      refine one_ (i := 5) (N := some 22) #[true, true, true, true, true, true, false, false, false] rfl rfl (by kernel_rfl) (by decide) (fun K hK => ?_)
      refine goes_ Try.func173 (by kernel_rfl) rfl #[.slice A2 b c2, .agg #[.int .i64 wd, .bool ch, .int .i64 sh]] (by rfl) rfl rfl (by simp only [List.map_toArray, List.map_cons, List.map_nil]; rfl) ?_
      refine rowCount_c A2 b c2 (subL l a b) wd ch sh _ HSB.out HR2.out hc2 HOS.out h1 h2 q HQ.out _ ?_
      intro w4 hb4
      refine ⟨_, rfl, ?_⟩
      have hG4 := hG3.trans (hb4.mono hG3.size)
      have HO4 := Lib.hid (HO3.out.below hb4)
      have HL5 := Lib.hid (HL4.out.below hb4)
      have hz4 : w3.heap.size ≤ w4.heap.size := hb4.size
      have j0 := cell_below hb4 k0
      have j1 := cell_below hb4 k1
      have j2 := cell_below hb4 k2
      have j3 := cell_below hb4 k3
      have j4 := cell_below hb4 k4
      have j5 := cell_below hb4 k5
      refine hK.out _ _ ⟨j0, j1, j2, j3, j4, j5⟩ (fun hHeld => ?_)
      clear hK K
      refine norm_ (a' := ?_) ?_ ?_
      rotate_left
      · show Act.put _ (some 22) _ = _
        simp only [Act.put, List.setIfInBounds_toArray, List.set_cons_zero, List.set_cons_succ, i64_w, i32_w]
        rfl
      refine one_ (i := 6) (N := some 23) #[true, true, true, true, true, true, true, false, false] rfl rfl (by kernel_rfl) (by decide) (fun K hK => ?_)
      refine value_ (w1 := ?_) (v := ?_) (by rfl) rfl ?_ ?_
      rotate_left 2
      · go_simp
        constructor
        · rfl
        · rfl
      have i0 := cell_below ((Below.refl _ _).alloc (Nat.le_refl _) (Obj.cells #[.int .i64 q] 2)) j0
      have i1 := cell_below ((Below.refl _ _).alloc (Nat.le_refl _) (Obj.cells #[.int .i64 q] 2)) j1
      have i2 := cell_below ((Below.refl _ _).alloc (Nat.le_refl _) (Obj.cells #[.int .i64 q] 2)) j2
      have i3 := cell_below ((Below.refl _ _).alloc (Nat.le_refl _) (Obj.cells #[.int .i64 q] 2)) j3
      have i4 := cell_below ((Below.refl _ _).alloc (Nat.le_refl _) (Obj.cells #[.int .i64 q] 2)) j4
      have i5 := cell_below ((Below.refl _ _).alloc (Nat.le_refl _) (Obj.cells #[.int .i64 q] 2)) j5
      refine hK.out _ _ ⟨i0, i1, i2, i3, i4, i5⟩ (fun hHeld => ?_)
      clear hK K
      refine norm_ (a' := ?_) ?_ ?_
      rotate_left
      · show Act.put _ (some 23) _ = _
        simp only [Act.put, List.setIfInBounds_toArray, List.set_cons_zero, List.set_cons_succ, i64_w, i32_w]
        rfl
      refine last_ (i := 7) (N := some 24) #[true, true, true, true, true, true, true, true, false] rfl rfl (by kernel_rfl) (by decide) (fun K hK => ?_)
      refine Kd.R_append_step (Kd.int .i64) (w0 := w) w.heap.size (by rfl) (.tmp 17) (.tmp 23) 49 2 (.int .i64 0) 8 rfl Try.underlying49 info_eI rfl (by decide) (by decide) (.slice B i d) (((linL l).take i).map (cntS l wd ch)) q [.int .i64 q] (fun _ => True) (fun _ => False) rfl rfl rfl (fun _ h => h.elim) (fun _ _ => trivial) (r_i64 HO4.out) hG4 hG4.size (by have := HBD.out; omega) ?_
      intro v' w' hr' hG' hg' hob
      have ho' := own_i64 hr'
      refine hK.out _ _ ?_
      clear hK K
      refine norm_ (a' := ?_) ?_ ?_
      rotate_left
      · show Act.put _ (some 24) _ = _
        simp only [Act.put, List.setIfInBounds_toArray, List.set_cons_zero, List.set_cons_succ, i64_w, i32_w]
        rfl
      refine pure_ (i := 8) (N := some 5) (v := ?_) (a' := ?_) #[true, true, true, true, true, true, true, true, true] rfl rfl (by kernel_rfl) (fun _ _ _ h => h) (Or.inl ⟨by rfl, ?_⟩) ?_ ?_
      rotate_left
      · intro w'
        go_simp
        with_reducible rfl
      rotate_left
      · simp only [Act.put, List.setIfInBounds_toArray, List.set_cons_zero, List.set_cons_succ, i64_w, i32_w]
        rfl
      refine done_ (by kernel_rfl) ?_
      have Z1 := blk_keep (blk_keep z1 (by omega) (below_drew hb3)) (by omega) hb4
      have Z2 := blk_keep (blk_keep z2 (by omega) (below_drew hb3)) (by omega) hb4
      have Z3 := Lib.hid (blk_grown Z1 (by omega) hg' HBN.out.1)
      have Z4 := Lib.hid (blk_grown Z2 (by omega) hg' HBN.out.2)
      have HL6 := Lib.hid (HL5.out.grown hg' (HL5.out.apart_ty HO4.out (by decide)))
      have hob1 : v'.ownBlock ≠ some w.heap.size ∧ v'.ownBlock ≠ some (w.heap.size + 1) := by
        rcases hob with e | ⟨b', e, hb'⟩
        · rw [e]; exact HBN.out
        · rw [e]
          have := hb4.size
          exact ⟨fun q => by have := Option.some.inj q; omega, fun q => by have := Option.some.inj q; omega⟩
      have hz6 : w.heap.size + 3 ≤ w'.heap.size := by have := hg'.size; omega
      have e4 : ((linL l).take (i + 1)).map (cntS l wd ch) = ((linL l).take i).map (cntS l wd ch) ++ [q] := by
        rw [List.take_add_one, HS.out, List.map_append, ← HQ.out]
        simp [cntS]
      obtain ⟨B', d', rfl, e1, e2, _⟩ := ho'.row
      have hll : (((linL l).take i).map (cntS l wd ch) ++ [q]).length = i + 1 := by rw [List.length_append, HLN.out]; rfl
      rw [hll] at e1 ho' hob1
      rw [← e4] at ho'
      rw [hll]
      have HO6 := Lib.hid ho'
      have HOB := Lib.hid hob1
      clear hll e4 ho' hob1 Z1 Z2 hob y_0 y_1 y_2 y_3 y_4 y_5 k0 k1 k2 k3 k4 k5 j0 j1 j2 j3 j4 j5 i0 i1 i2 i3 i4 i5 hr' z1 z2 y1
      go_wp2_with (fail)
      go_roundg (m - (i + 1))
      case measure => omega
      case rel => exact ⟨i + 1, d', B', rfl, by omega, rfl, by go_num, e1, e2, HO6.out, HL6.out, Z3, Z4, HOB.out, hG', hz6⟩
    · obtain rfl : i = m := by omega
      have e5 : (linL l).take i = linL l := List.take_of_length_le (by rw [HM.out]; exact Nat.le_refl _)
      have hlen : (cntL l wd ch).length = i := by rw [cntL, List.length_map, HM.out]
      go_wp2_with (fail)
      go_ret
      have ho2 := HO1.out
      rw [e5] at ho2
      have := H.out B d _ (by rw [hlen]; exact ho2) (by rw [hlen]; exact hd1) hd2 hG
      rw [hlen] at this
      exact this
end Go.Proofs.Ytjnmhpldabbeiaa.M
end
section
namespace Go.Proofs.Ytjnmhpldabbeiaa.Q
open Go.RowKit Go.Proofs.YtjnmhpldabbeiaaW.PrintWords Go.Proofs.YtjnmhpldabbeiaaW.PrintLast Go.Proofs.YtjnmhpldabbeiaaW.PrintMore
attribute [local go_sem] max2_int min2_int max_two min_two max_three min_three max_four min_four   -- for this text's walks alone
set_option linter.unusedVariables false
set_option linter.unusedSimpArgs false
/-! ### impl_rowsOf: function 122 -/
def impl_rowsOf.f (l0_0 : List Int) (a1_0 : Int) (a1_1 : Bool) (a1_2 : Int) : Option (List Int):=if (M.lineOk l0_0 && decide (1 ≤ a1_0 ∧ a1_0 ≤ 40)) = true then some (M.cntL l0_0 a1_0 a1_1) else none
theorem impl_rowsOf.calls (A0_0 : Option Addr) (c0_0 : Nat) (l0_0 : List Int) (a1_0 : Int) (a1_1 : Bool) (a1_2 : Int) (r : List Int) (w : World) (hr0_0 : Kd.C (Kd.int .u8) w A0_0 l0_0.length l0_0) (hc0_0 : l0_0.length ≤ c0_0) (h : impl_rowsOf.f l0_0 a1_0 a1_1 a1_2 = some r) :
 Calls Try.prog 122 #[.agg #[.slice A0_0 l0_0.length c0_0],.agg #[.int .i64 a1_0,.bool a1_1,.int .i64 a1_2]] w fun e w' => ∃ v0_ : Value,e = .returned (v0_) ∧ Kd.R (Kd.int .i64) 2 w' w.heap.size (fun _ => True) v0_ r ∧ Below w.heap.size w w':=by
 unfold impl_rowsOf.f at h
 split at h
 · rename_i hok
   obtain rfl:=Option.some.inj h
   rw [Bool.and_eq_true,decide_eq_true_eq] at hok
   exact M.rowsOf_c A0_0 l0_0.length c0_0 l0_0 a1_0 a1_1 a1_2 w rfl (M.row_ints hr0_0) hc0_0 hok.1 hok.2.1 hok.2.2 _ (fun A' c' w' ho _ _ hb => ⟨_,rfl,M.r_i64 ho,hb⟩)
 · cases h
end Go.Proofs.Ytjnmhpldabbeiaa.Q
end
