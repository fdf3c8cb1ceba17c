import Derived.WalkKit
import Derived.Handy
import Derived.Deep.QuietTactic
import Derived.BigQuiet
import Derived.Deep.Draws
import Derived.Deep.AppendLies
import Derived.Deep.LoopGhost
import Derived.Laws.OwnMore
import Derived.OwnWalk
import Derived.Lib.Hide
import Derived.Deep.RegionHeld3
import Derived.Deep.DeepCutAuto
namespace Go.Proofs.Ytcinaflmpdmdaaa
open Go.RowKit

/-! ### ends: contracts are said with an open post R -/
/-- The post behind a name: the walk does not look into it. -/
def Fin (R : Ending → World → Prop) (e : Ending) (w : World) : Prop := R e w
theorem retI {R : Ending → World → Prop} {w : World} {a b : Int} (h : R (.returned (.int .i64 a)) w) (e : b = a) : Fin R (.returned (.int .i64 b)) w := by rw [e]; exact h
theorem retB {R : Ending → World → Prop} {w : World} {a b : Bool} (h : R (.returned (.bool a)) w) (e : b = a) : Fin R (.returned (.bool b)) w := by rw [e]; exact h
theorem retV {R : Ending → World → Prop} {w : World} {a b : Value} (h : R (.returned a) w) (e : b = a) : Fin R (.returned b) w := by rw [e]; exact h

/-! ### cells in line -/
/-- The values vs lie from p on. -/
def At (w : World) (p : Addr) (vs : List Value) : Prop := (∀ v, vs[0]? = some v → w.cell? p = some v) ∧ ∀ j v, vs[j + 1]? = some v → w.cell? ⟨p.block, p.off + (j + 1), none⟩ = some v
theorem cell_below {w w' : World} {p : Addr} {v : Value} (hb : Below w.heap.size w w') (h : w.cell? p = some v) : w'.cell? p = some v := (hb.cell (World.block_lt_of_cell? w _ h)).trans h
theorem At.below {w w' : World} {p : Addr} {vs : List Value} (h : At w p vs) (hb : Below w.heap.size w w') : At w' p vs :=
  ⟨fun v hv => cell_below hb (h.1 v hv), fun j v hv => cell_below hb (h.2 j v hv)⟩
section
variable {w : World} {p : Addr} {a b c d e f g h : Value}
theorem At.one (x : At w p [a]) : w.cell? p = some a := x.1 _ rfl
theorem At.two (x : At w p [a, b]) : w.cell? p = some a ∧ w.cell? ⟨p.block, p.off + 1, none⟩ = some b := ⟨x.1 _ rfl, x.2 0 _ rfl⟩
theorem At.three (x : At w p [a, b, c]) : w.cell? p = some a ∧ w.cell? ⟨p.block, p.off + 1, none⟩ = some b ∧ w.cell? ⟨p.block, p.off + 2, none⟩ = some c := ⟨x.1 _ rfl, x.2 0 _ rfl, x.2 1 _ rfl⟩
theorem At.five (x : At w p [a, b, c, d, e]) : w.cell? p = some a ∧ w.cell? ⟨p.block, p.off + 1, none⟩ = some b ∧ w.cell? ⟨p.block, p.off + 2, none⟩ = some c ∧ w.cell? ⟨p.block, p.off + 3, none⟩ = some d ∧ w.cell? ⟨p.block, p.off + 4, none⟩ = some e :=
  ⟨x.1 _ rfl, x.2 0 _ rfl, x.2 1 _ rfl, x.2 2 _ rfl, x.2 3 _ rfl⟩
theorem At.eight (x : At w p [a, b, c, d, e, f, g, h]) : w.cell? p = some a ∧ w.cell? ⟨p.block, p.off + 1, none⟩ = some b ∧ w.cell? ⟨p.block, p.off + 2, none⟩ = some c ∧ w.cell? ⟨p.block, p.off + 3, none⟩ = some d ∧ w.cell? ⟨p.block, p.off + 4, none⟩ = some e ∧
    w.cell? ⟨p.block, p.off + 5, none⟩ = some f ∧ w.cell? ⟨p.block, p.off + 6, none⟩ = some g ∧ w.cell? ⟨p.block, p.off + 7, none⟩ = some h :=
  ⟨x.1 _ rfl, x.2 0 _ rfl, x.2 1 _ rfl, x.2 2 _ rfl, x.2 3 _ rfl, x.2 4 _ rfl, x.2 5 _ rfl, x.2 6 _ rfl⟩
end
theorem keeps_refl (w : World) : ∀ p, (w.cell? p).isSome = true → w.drew.cell? p = w.cell? p := fun _ _ => rfl
theorem keeps_below {w w' : World} (hb : Below w.heap.size w w') : ∀ p, (w.cell? p).isSome = true → w'.cell? p = w.cell? p := fun p hp => by
  cases hc : w.cell? p with
  | none => rw [hc] at hp; cases hp
  | some v => exact cell_below hb hc
theorem keeps_trans {w w1 w2 : World} (hk : ∀ p, (w.cell? p).isSome = true → w1.cell? p = w.cell? p) (hb : Below w1.heap.size w1 w2) : ∀ p, (w.cell? p).isSome = true → w2.cell? p = w.cell? p := fun p hp => by
  have h1 := hk p hp
  exact (keeps_below hb p (by rw [h1]; exact hp)).trans h1
theorem below_drew {w w' : World} (hb : Below w.drew.heap.size w.drew w') : Below w.heap.size w w' := ⟨hb.os, hb.tape, hb.output, hb.size, hb.block⟩
theorem bdN {B : Nat} {a w : World} (h : Below B a w) (n : Nat) : Below B a (w.drewN n) := ⟨h.os, h.tape, h.output, h.size, h.block⟩
/-- All cells of a block, as a rule for the walk. -/
theorem blk_new (w : World) (cs : Array Value) (t : TypeId) : ∀ i, (w.alloc (.cells cs t)).cell? ⟨w.heap.size, i, none⟩ = cs[i]? := fun i => World.cell?_alloc_new w cs t i
theorem blk_keep {w w' : World} {g : Nat} {cs : Array Value} (h : ∀ i, w.cell? ⟨g, i, none⟩ = cs[i]?) (hg : g < w.heap.size) (hb : Below w.heap.size w w') : ∀ i, w'.cell? ⟨g, i, none⟩ = cs[i]? := fun i => (hb.cell (p := ⟨g, i, none⟩) hg).trans (h i)
theorem blk_alloc {w : World} {g : Nat} {cs : Array Value} (h : ∀ i, w.cell? ⟨g, i, none⟩ = cs[i]?) (hg : g < w.heap.size) (o : Obj) : ∀ i, (w.alloc o).cell? ⟨g, i, none⟩ = cs[i]? := blk_keep h hg ((Below.refl _ _).alloc (Nat.le_refl _) o)
theorem frz_new (w : World) (cs : Array Value) (t : TypeId) : ∀ i, (w.alloc (.cells cs t)).frozen? ⟨w.heap.size, i, none⟩ = false := fun i => World.frozen?_alloc_new w cs t i
theorem frz_keep {w w' : World} {g : Nat} (h : ∀ i, w.frozen? ⟨g, i, none⟩ = false) (hg : g < w.heap.size) (hb : Below w.heap.size w w') : ∀ i, w'.frozen? ⟨g, i, none⟩ = false := fun i => (hb.frozen (p := ⟨g, i, none⟩) hg).trans (h i)
/-- The box laid first, behind something that leaves old memory alone. -/
theorem box_new {w w1 : World} (cs : Array Value) (t : TypeId) (hb : Below (w.alloc (.cells cs t)).heap.size (w.alloc (.cells cs t)) w1) :
    (∀ i, w1.cell? ⟨w.heap.size, i, none⟩ = cs[i]?) ∧ (∀ i, w1.frozen? ⟨w.heap.size, i, none⟩ = false) ∧ w.heap.size < w1.heap.size ∧ Below w.heap.size w w1 :=
  ⟨blk_keep (blk_new w cs t) (by simp) hb, frz_keep (frz_new w cs t) (by simp) hb, Nat.lt_of_lt_of_le (by simp) hb.size, Below.trans ((Below.refl _ _).alloc (Nat.le_refl _) _) (hb.mono (by simp))⟩
theorem blk_grown {w w' : World} {g : Nat} {cs : Array Value} {row : Option Nat} (h : ∀ i, w.cell? ⟨g, i, none⟩ = cs[i]?) (hg : g < w.heap.size) (hb : w.grownBy w' row) (hne : row ≠ some g) : ∀ i, w'.cell? ⟨g, i, none⟩ = cs[i]? :=
  fun i => (World.cell?_of_block (hb.block _ hg (fun e => hne e.symm))).trans (h i)
theorem frz_alloc {w : World} {g : Nat} (h : ∀ i, w.frozen? ⟨g, i, none⟩ = false) (hg : g < w.heap.size) (o : Obj) : ∀ i, (w.alloc o).frozen? ⟨g, i, none⟩ = false := frz_keep h hg ((Below.refl _ _).alloc (Nat.le_refl _) o)
theorem blk_set {w : World} {g : Nat} {cs : Array Value} (h : ∀ i, w.cell? ⟨g, i, none⟩ = cs[i]?) (j : Nat) (v : Value) (hj : j < cs.size) : ∀ i, (w.setCell ⟨g, j, none⟩ v).cell? ⟨g, i, none⟩ = (cs.setIfInBounds j v)[i]? := fun i => by
  by_cases e : j = i
  · subst e
    rw [World.cell?_setCell_same _ _ _ ((h j).trans (Array.getElem?_eq_getElem hj))]
    simp [hj]
  · rw [World.cell?_setCell_other _ _ _ _ (fun q => e (by injection q)), h i]
    simp [e]
theorem blk_else {w : World} {g g' : Nat} {cs : Array Value} (h : ∀ i, w.cell? ⟨g, i, none⟩ = cs[i]?) (hg : g' ≠ g) (j : Nat) (v : Value) : ∀ i, (w.setCell ⟨g', j, none⟩ v).cell? ⟨g, i, none⟩ = cs[i]? := fun i => by
  rw [World.cell?_setCell_other _ _ _ _ (fun q => hg (by injection q)), h i]
theorem frz_set {w : World} {g : Nat} (h : ∀ i, w.frozen? ⟨g, i, none⟩ = false) (a : Addr) (v : Value) : ∀ i, (w.setCell a v).frozen? ⟨g, i, none⟩ = false := fun i => by rw [World.frozen?_setCell]; exact h i
/-- Three boxes laid one behind another. -/
theorem box3 (w : World) (a b c : Array Value) (s t u : TypeId) (W : World) (hW : W = ((w.alloc (.cells a s)).alloc (.cells b t)).alloc (.cells c u)) :
    (∀ i, W.cell? ⟨w.heap.size, i, none⟩ = a[i]?) ∧ (∀ i, W.cell? ⟨w.heap.size + 1, i, none⟩ = b[i]?) ∧ (∀ i, W.cell? ⟨w.heap.size + 2, i, none⟩ = c[i]?) ∧
    (∀ i, W.frozen? ⟨w.heap.size, i, none⟩ = false) ∧ (∀ i, W.frozen? ⟨w.heap.size + 1, i, none⟩ = false) ∧ (∀ i, W.frozen? ⟨w.heap.size + 2, i, none⟩ = false) ∧ W.heap.size = w.heap.size + 3 ∧ Below w.heap.size w W := by
  have e1 : (w.alloc (.cells a s)).heap.size = w.heap.size + 1 := by simp
  have e2 : ((w.alloc (.cells a s)).alloc (.cells b t)).heap.size = w.heap.size + 2 := by simp
  have b1 := blk_new (w.alloc (.cells a s)) b t
  have f1 := frz_new (w.alloc (.cells a s)) b t
  have b2 := blk_new ((w.alloc (.cells a s)).alloc (.cells b t)) c u
  have f2 := frz_new ((w.alloc (.cells a s)).alloc (.cells b t)) c u
  rw [e1] at b1 f1
  rw [e2] at b2 f2
  subst hW
  exact ⟨blk_alloc (blk_alloc (blk_new w a s) (by omega) _) (by omega) _, blk_alloc b1 (by omega) _, b2, frz_alloc (frz_alloc (frz_new w a s) (by omega) _) (by omega) _, frz_alloc f1 (by omega) _, f2, by simp, (((Below.refl _ _).alloc (Nat.le_refl _) _).alloc (by omega) _).alloc (by omega) _⟩
/-- Two boxes. -/
theorem box2 (w : World) (a b : Array Value) (s t : TypeId) (W : World) (hW : W = (w.alloc (.cells a s)).alloc (.cells b t)) :
    (∀ i, W.cell? ⟨w.heap.size, i, none⟩ = a[i]?) ∧ (∀ i, W.cell? ⟨w.heap.size + 1, i, none⟩ = b[i]?) ∧
    (∀ i, W.frozen? ⟨w.heap.size, i, none⟩ = false) ∧ (∀ i, W.frozen? ⟨w.heap.size + 1, i, none⟩ = false) ∧ W.heap.size = w.heap.size + 2 ∧ Below w.heap.size w W := by
  have e1 : (w.alloc (.cells a s)).heap.size = w.heap.size + 1 := by simp
  have b1 := blk_new (w.alloc (.cells a s)) b t
  have f1 := frz_new (w.alloc (.cells a s)) b t
  rw [e1] at b1 f1
  subst hW
  exact ⟨blk_alloc (blk_new w a s) (by omega) _, b1, frz_alloc (frz_new w a s) (by omega) _, f1, by simp, ((Below.refl _ _).alloc (Nat.le_refl _) _).alloc (by omega) _⟩
/-- One box. -/
theorem box1 (w : World) (a : Array Value) (s : TypeId) (W : World) (hW : W = w.alloc (.cells a s)) :
    (∀ i, W.cell? ⟨w.heap.size, i, none⟩ = a[i]?) ∧ (∀ i, W.frozen? ⟨w.heap.size, i, none⟩ = false) ∧ W.heap.size = w.heap.size + 1 ∧ Below w.heap.size w W := by
  subst hW
  exact ⟨blk_new w a s, frz_new w a s, by simp, (Below.refl _ _).alloc (Nat.le_refl _) _⟩
theorem size_alloc (w : World) (o : Obj) : (w.alloc o).heap.size = w.heap.size + 1 := by simp
theorem add_add (a : Addr) (i j : Nat) : (a.add i).add j = a.add (i + j) := by
  unfold Addr.add
  by_cases hi : i = 0 <;> by_cases hj : j = 0 <;> simp [hi, hj, Nat.add_assoc]
theorem add_block (a : Addr) (n : Nat) : (a.add n).block = a.block := by unfold Addr.add; split <;> rfl
theorem add_succ (p : Addr) (j : Nat) : p.add (j + 1) = ⟨p.block, p.off + (j + 1), none⟩ := by simp [Addr.add]
/-- The same by 'add'. -/
theorem At.of_add {w : World} {p : Addr} {vs : List Value} (h : ∀ j v, vs[j]? = some v → w.cell? (p.add j) = some v) : At w p vs :=
  ⟨fun v hv => h 0 v hv, fun j v hv => by rw [← add_succ]; exact h _ v hv⟩
theorem At.add {w : World} {p : Addr} {vs : List Value} (h : At w p vs) (j : Nat) (v : Value) (hv : vs[j]? = some v) : w.cell? (p.add j) = some v := by
  cases j with
  | zero => exact h.1 v hv
  | succ j => rw [add_succ]; exact h.2 j v hv

/-! ### rows that are read -/
/-- At A lie the elements xs, each k cells by enc. -/
def Row {α : Type} (enc : α → List Value) (k : Nat) (w : World) (A : Option Addr) (xs : List α) : Prop :=
  ∀ i x, xs[i]? = some x → ∃ ad, A = some ad ∧ At w (ad.add (i * k)) (enc x)
theorem drop_cons {α : Type} {xs : List α} {i : Nat} {x : α} (h : xs[i]? = some x) : xs.drop i = x :: xs.drop (i + 1) := by
  obtain ⟨hi, e⟩ := List.getElem?_eq_some_iff.1 h
  rw [List.drop_eq_getElem_cons hi, e]
theorem get_lt {α : Type} {xs : List α} {i : Nat} (h : i < xs.length) : ∃ x, xs[i]? = some x := ⟨_, List.getElem?_eq_getElem h⟩
section
variable {α : Type} {enc : α → List Value} {k : Nat} {w w' : World} {A : Option Addr} {xs : List α}
theorem Row.below (h : Row enc k w A xs) (hb : Below w.heap.size w w') : Row enc k w' A xs := fun i x hx => by
  obtain ⟨ad, e, ha⟩ := h i x hx
  exact ⟨ad, e, ha.below hb⟩
theorem Row.keeps (h : Row enc k w A xs) (hk : ∀ p, (w.cell? p).isSome = true → w'.cell? p = w.cell? p) : Row enc k w' A xs := fun i x hx => by
  obtain ⟨ad, e, h1, h2⟩ := h i x hx
  exact ⟨ad, e, fun v hv => (hk _ (by rw [h1 v hv]; rfl)).trans (h1 v hv), fun j v hv => (hk _ (by rw [h2 j v hv]; rfl)).trans (h2 j v hv)⟩
theorem Row.sub {ad : Addr} (h : Row enc k w (some ad) xs) (i m : Nat) : Row enc k w (some (ad.add (i * k))) ((xs.drop i).take m) := fun j x hx => by
  have hj : (xs.drop i)[j]? = some x := by
    rw [List.getElem?_take] at hx
    split at hx
    · exact hx
    · cases hx
  rw [List.getElem?_drop] at hj
  obtain ⟨ad', e, hA⟩ := h (i + j) x hj
  cases e
  refine ⟨_, rfl, ?_⟩
  rw [add_add, ← Nat.add_mul]
  exact hA
theorem Row.nil (enc : α → List Value) (k : Nat) (w : World) (A : Option Addr) : Row enc k w A [] := fun i x hx => by simp at hx
theorem Row.one {f : α → Value} (h : Row (fun x => [f x]) 1 w A xs) {i : Nat} {x : α} (hx : xs[i]? = some x) : ∃ ad, A = some ad ∧ w.cell? (ad.add i) = some (f x) := by
  obtain ⟨ad, e, ha⟩ := h i x hx
  exact ⟨ad, e, by have := ha.one; rwa [Nat.mul_one] at this⟩
end

/-! ### rows of the call's own -/
/-- The cells hold the elements xs, k cells each. -/
def Enc {α : Type} (enc : α → List Value) (k : Nat) (xs : List α) (cells : List Value) : Prop :=
  cells.length = xs.length * k ∧ ∀ i x, xs[i]? = some x → ∀ j u, (enc x)[j]? = some u → cells[i * k + j]? = some u
theorem mul_lt {i i' j k r : Nat} (h : i < i') (hj : j < k) : i * k + j < i' * k + r := by
  have : (i + 1) * k ≤ i' * k := Nat.mul_le_mul_right _ h
  rw [Nat.add_mul] at this
  omega
def setAll (c : List Value) (p : Nat) : List Value → List Value
  | [] => c
  | v :: vs => setAll (c.set p v) (p + 1) vs
theorem setAll_len : ∀ (vs : List Value) (c : List Value) (p : Nat), (setAll c p vs).length = c.length
  | [], _, _ => rfl
  | v :: vs, c, p => by rw [setAll, setAll_len vs]; simp
theorem setAll_out : ∀ (vs : List Value) (c : List Value) (p q : Nat), (q < p ∨ p + vs.length ≤ q) → (setAll c p vs)[q]? = c[q]?
  | [], _, _, _, _ => rfl
  | v :: vs, c, p, q, h => by
    rw [setAll, setAll_out vs _ _ _ (by simp only [List.length_cons] at h; omega), List.getElem?_set_ne (by simp only [List.length_cons] at h; omega)]
theorem setAll_in : ∀ (vs : List Value) (c : List Value) (p j : Nat) (u : Value), p + vs.length ≤ c.length → vs[j]? = some u → (setAll c p vs)[p + j]? = some u
  | [], _, _, _, _, _, h => by simp at h
  | v :: vs, c, p, 0, u, hl, h => by
    obtain rfl : v = u := by simpa using h
    rw [setAll, setAll_out vs _ _ _ (by omega), Nat.add_zero, List.getElem?_set_self (by simp only [List.length_cons] at hl; omega)]
  | v :: vs, c, p, j + 1, u, hl, h => by
    rw [setAll, show p + (j + 1) = p + 1 + j by omega]
    exact setAll_in vs _ _ _ _ (by simp only [List.length_cons, List.length_set] at hl ⊢; omega) (by simpa using h)
section
variable {α : Type} {enc : α → List Value} {k : Nat} {xs : List α} {c : List Value}
theorem Enc.nil : Enc enc k [] [] := ⟨by simp, fun i x h => by simp at h⟩
theorem Enc.snoc (h : Enc enc k xs c) (x : α) (hx : (enc x).length = k) : Enc enc k (xs ++ [x]) (c ++ enc x) := by
  refine ⟨by rw [List.length_append, h.1, hx, List.length_append, List.length_singleton, Nat.add_mul, Nat.one_mul], fun i y hy j u hu => ?_⟩
  by_cases hi : i < xs.length
  · rw [List.getElem?_append_left hi] at hy
    have := h.2 i y hy j u hu
    rw [List.getElem?_append_left (List.getElem?_eq_some_iff.1 this).1, this]
  · have hl : i < (xs ++ [x]).length := (List.getElem?_eq_some_iff.1 hy).1
    rw [List.length_append, List.length_singleton] at hl
    obtain rfl : i = xs.length := by omega
    rw [List.getElem?_append_right (Nat.le_refl _), Nat.sub_self] at hy
    obtain rfl : x = y := by simpa using hy
    rw [List.getElem?_append_right (by rw [h.1]; omega), h.1, Nat.add_sub_cancel_left, hu]
theorem Enc.append {ys : List α} {d : List Value} (h : Enc enc k xs c) (hd : Enc enc k ys d) : Enc enc k (xs ++ ys) (c ++ d) := by
  refine ⟨by rw [List.length_append, h.1, hd.1, List.length_append, Nat.add_mul], fun i y hy j u hu => ?_⟩
  by_cases hi : i < xs.length
  · rw [List.getElem?_append_left hi] at hy
    have := h.2 i y hy j u hu
    rw [List.getElem?_append_left (List.getElem?_eq_some_iff.1 this).1, this]
  · rw [List.getElem?_append_right (by omega)] at hy
    have hm : xs.length * k ≤ i * k := Nat.mul_le_mul_right _ (by omega)
    rw [List.getElem?_append_right (by rw [h.1]; omega), h.1, show i * k + j - xs.length * k = (i - xs.length) * k + j by rw [Nat.sub_mul]; omega]
    exact hd.2 _ y hy j u hu
theorem Enc.set (hk : ∀ x, (enc x).length = k) (h : Enc enc k xs c) {i : Nat} (hi : i < xs.length) (x : α) : Enc enc k (xs.set i x) (setAll c (i * k) (enc x)) := by
  refine ⟨by rw [setAll_len, h.1, List.length_set], fun i' y hy j u hu => ?_⟩
  have hj : j < k := by rw [← hk y]; exact (List.getElem?_eq_some_iff.1 hu).1
  by_cases e : i' = i
  · subst e
    rw [List.getElem?_set_self hi] at hy
    obtain rfl := Option.some.inj hy
    refine setAll_in _ _ _ _ _ ?_ hu
    rw [hk, h.1]
    have : (i' + 1) * k ≤ xs.length * k := Nat.mul_le_mul_right _ hi
    rw [Nat.add_mul] at this
    omega
  · rw [List.getElem?_set_ne (Ne.symm e)] at hy
    rw [setAll_out _ _ _ _ ?_]
    · exact h.2 i' y hy j u hu
    · rw [hk]
      rcases Nat.lt_or_gt_of_ne e with h' | h'
      · have := mul_lt (r := 0) h' hj; omega
      · have : (i + 1) * k ≤ i' * k := Nat.mul_le_mul_right _ h'
        rw [Nat.add_mul] at this
        omega
theorem Enc.take (hk : ∀ x, (enc x).length = k) (h : Enc enc k xs c) (n : Nat) (hn : n ≤ xs.length) : Enc enc k (xs.take n) (c.take (n * k)) := by
  have hm : n * k ≤ xs.length * k := Nat.mul_le_mul_right _ hn
  refine ⟨by rw [List.length_take, h.1, List.length_take]; rw [Nat.min_eq_left hm, Nat.min_eq_left hn], fun i x hx j u hu => ?_⟩
  have hi : i < n := by have := (List.getElem?_eq_some_iff.1 hx).1; rw [List.length_take] at this; omega
  rw [List.getElem?_take_of_lt hi] at hx
  have hj : j < k := by rw [← hk x]; exact (List.getElem?_eq_some_iff.1 hu).1
  rw [List.getElem?_take_of_lt (by have := mul_lt (r := 0) hi hj; omega)]
  exact h.2 i x hx j u hu
end
/-- v owns a row of elements xs (type e), in a block from base on. -/
def Own {α : Type} (enc : α → List Value) (k : Nat) (e : TypeId) (w : World) (base : Nat) (v : Value) (xs : List α) : Prop := ∃ cells, Enc enc k xs cells ∧ w.ownsRow base e k v xs.length cells
section
variable {α : Type} {enc : α → List Value} {k : Nat} {e : TypeId} {w w' : World} {base base' : Nat} {v : Value} {xs : List α}
theorem Own.lower (h : Own enc k e w base v xs) (hb : base' ≤ base) : Own enc k e w base' v xs := by
  obtain ⟨cells, hE, h⟩ := h
  refine ⟨cells, hE, h.1, ?_⟩
  rcases h.2 with h2 | ⟨g, cap, cur, h3, h4, r⟩
  · exact .inl h2
  · exact .inr ⟨g, cap, cur, h3, by omega, r⟩
theorem grown_of_below (hb : Below w.heap.size w w') : w.grownBy w' none := ⟨hb.os, hb.tape, hb.output, hb.size, fun k hk _ => hb.block k hk⟩
theorem Own.grown (h : Own enc k e w base v xs) {row : Option Nat} (hg : w.grownBy w' row) (hne : v.ownBlock = none ∨ v.ownBlock ≠ row) : Own enc k e w' base v xs := by
  obtain ⟨cells, hE, h⟩ := h
  exact ⟨cells, hE, World.ownsRow.kept h hg hne⟩
theorem Own.below (h : Own enc k e w base v xs) (hb : Below w.heap.size w w') : Own enc k e w' base v xs := h.grown (grown_of_below hb) (by cases v.ownBlock <;> simp)
theorem Own.alloc (h : Own enc k e w base v xs) (o : Obj) : Own enc k e (w.alloc o) base v xs := h.grown (World.grownBy_alloc w o none) (by cases v.ownBlock <;> simp)
theorem Own.drew (h : Own enc k e w base v xs) : Own enc k e w.drew base v xs := h
theorem Own.drewN (h : Own enc k e w base v xs) (n : Nat) : Own enc k e (w.drewN n) base v xs := h
theorem Own.nil (w : World) (base : Nat) : Own enc k e w base (.slice none 0 0) [] := ⟨[], Enc.nil, World.ownsRow_nil w base e k⟩
theorem Own.lt (h : Own enc k e w base v xs) {g : Nat} (hg : v.ownBlock = some g) : base ≤ g ∧ g < w.heap.size := by
  obtain ⟨cells, hE, h⟩ := h
  exact World.ownsRow.lt h g hg
/-- What is owned reads so. -/
theorem Own.row (h : Own enc k e w base v xs) : ∃ A c, v = .slice A xs.length c ∧ xs.length ≤ c ∧ c ≤ maxLen ∧ Row enc k w A xs := by
  obtain ⟨cells, hE, h⟩ := h
  have h0 := h
  rcases h.2 with ⟨rfl, hn⟩ | ⟨g, cap, cur, rfl, hb, hg, hnc, hcm, hcs, ht⟩
  · refine ⟨none, 0, by rw [hn], by omega, by unfold maxLen; omega, ?_⟩
    have : xs = [] := List.eq_nil_of_length_eq_zero hn
    subst this
    exact Row.nil _ _ _ _
  · refine ⟨some ⟨g, 0, none⟩, cap, rfl, hnc, hcm, fun i x hx => ⟨_, rfl, At.of_add fun j u hu => ?_⟩⟩
    rw [add_add]
    exact World.ownsRow.cells h0 (g := g) rfl _ _ (hE.2 i x hx j u hu)
/-- The shape, where there is an element. -/
theorem Own.rowOf {A : Option Addr} {n c : Nat} (h : Own enc k e w base (.slice A n c) xs) : Row enc k w A xs := by
  obtain ⟨A', c', e, _, _, r⟩ := h.row
  injection e with e1
  subst e1
  exact r
theorem Own.shape (h : Own enc k e w base v xs) (hn : 0 < xs.length) : ∃ g c, v = .slice (some ⟨g, 0, none⟩) xs.length c ∧ base ≤ g ∧ g < w.heap.size ∧ xs.length ≤ c ∧ c ≤ maxLen := by
  obtain ⟨cells, hE, h⟩ := h
  rcases h.2 with ⟨rfl, hn'⟩ | ⟨g, cap, cur, rfl, hb, hg, hnc, hcm, hcs, ht⟩
  · omega
  · exact ⟨g, cap, rfl, hb, (Array.getElem?_eq_some_iff.1 hg).1, hnc, hcm⟩
end
/-! ### an owned row whose block is known: read, write -/
section
variable {α : Type} {enc : α → List Value} {k : Nat} {e : TypeId} {w : World} {base : Nat} {g n c : Nat} {xs : List α}
theorem Own.len (h : Own enc k e w base (.slice (some ⟨g, 0, none⟩) n c) xs) : xs.length = n := by
  obtain ⟨cells, hE, h⟩ := h
  rcases h.2 with ⟨h', _⟩ | ⟨g', cap, cur, h', _⟩
  · cases h'
  · injection h' with _ h2 _
    exact h2.symm
theorem Own.at_ (h : Own enc k e w base (.slice (some ⟨g, 0, none⟩) n c) xs) {i : Nat} {x : α} (hx : xs[i]? = some x) : At w ⟨g, i * k, none⟩ (enc x) := by
  have hl := h.len
  subst hl
  obtain ⟨cells, hE, h⟩ := h
  refine At.of_add fun j u hu => ?_
  have := World.ownsRow.cells h (g := g) rfl _ _ (hE.2 i x hx j u hu)
  have e : ((⟨g, i * k, none⟩ : Addr).add j) = (⟨g, 0, none⟩ : Addr).add (i * k + j) := by
    unfold Addr.add
    by_cases h1 : j = 0
    · subst h1
      by_cases h2 : i * k = 0
      · simp [h2]
      · simp [h2]
    · by_cases h2 : i * k = 0
      · simp [h1, h2]
      · rw [if_neg h1, if_neg (by omega)]
        simp
  rw [e]
  exact this
/-- A store elsewhere. -/
theorem Own.other (h : Own enc k e w base (.slice (some ⟨g, 0, none⟩) n c) xs) {b : Nat} (hb : b ≠ g) (i : Nat) (x : Value) : Own enc k e (w.setCell ⟨b, i, none⟩ x) base (.slice (some ⟨g, 0, none⟩) n c) xs :=
  h.grown (row := some b) ⟨rfl, rfl, rfl, by simp [World.setCell], fun j _ hne => Below.heap_setCell _ _ _ _ (fun e => hne (by rw [e]))⟩ (.inr (fun e => hb (Option.some.inj e).symm))
theorem Own.free (h : Own enc k e w base (.slice (some ⟨g, 0, none⟩) n c) xs) (j : Nat) : w.frozen? ⟨g, j, none⟩ = false := by
  have hl := h.len
  subst hl
  obtain ⟨cells, hE, h⟩ := h
  exact World.ownsRow.frozenAt h j
theorem Own.lt' (h : Own enc k e w base (.slice (some ⟨g, 0, none⟩) n c) xs) : base ≤ g ∧ g < w.heap.size := h.lt rfl
/-- What vs written from p on leaves. -/
def putAll (w : World) (g p : Nat) : List Value → World
  | [] => w
  | v :: vs => putAll (w.setCell ⟨g, p, none⟩ v) g (p + 1) vs
theorem putAll_row : ∀ (vs : List Value) (w : World) (p : Nat) (cells : List Value), w.ownsRow base e k (.slice (some ⟨g, 0, none⟩) n c) n cells →
    (putAll w g p vs).ownsRow base e k (.slice (some ⟨g, 0, none⟩) n c) n (setAll cells p vs) ∧ w.grownBy (putAll w g p vs) (some g)
  | [], w, p, cells, h => ⟨h, World.grownBy.refl w _⟩
  | v :: vs, w, p, cells, h => by
    obtain ⟨h1, h2⟩ := World.ownsRow.stored h p v
    obtain ⟨h3, h4⟩ := putAll_row vs _ (p + 1) _ h1
    exact ⟨h3, ⟨h4.os.trans h2.os, h4.tape.trans h2.tape, h4.output.trans h2.output, Nat.le_trans h2.size h4.size, fun i hi hne => (h4.block i (Nat.lt_of_lt_of_le hi h2.size) hne).trans (h2.block i hi hne)⟩⟩
theorem Own.put (hk : ∀ x, (enc x).length = k) (h : Own enc k e w base (.slice (some ⟨g, 0, none⟩) n c) xs) {i : Nat} (hi : i < n) (x : α) :
    Own enc k e (putAll w g (i * k) (enc x)) base (.slice (some ⟨g, 0, none⟩) n c) (xs.set i x) ∧ w.grownBy (putAll w g (i * k) (enc x)) (some g) := by
  have hl := h.len
  subst hl
  obtain ⟨cells, hE, h⟩ := h
  obtain ⟨h1, h2⟩ := putAll_row (enc x) w (i * k) cells h
  exact ⟨⟨_, hE.set hk hi x, by rw [List.length_set]; exact h1⟩, h2⟩
end
theorem Own.store {α : Type} {enc : α → List Value} {k : Nat} {e : TypeId} {w : World} {base : Nat} {v : Value} {xs : List α} (h : Own enc k e w base v xs) {b : Nat} (hb : b < base) (i : Nat) (x : Value) : Own enc k e (w.setCell ⟨b, i, none⟩ x) base v xs :=
  h.grown (row := some b) ⟨rfl, rfl, rfl, by simp [World.setCell], fun j _ hne => Below.heap_setCell _ _ _ _ (fun e => hne (by rw [e]))⟩ (.inr (fun e => by have := (h.lt e).1; omega))
theorem frz_below {w w' : World} {p : Addr} (h : w.frozen? p = false) (hp : p.block < w.heap.size) (hb : Below w.heap.size w w') : w'.frozen? p = false := (hb.frozen hp).trans h
theorem Own.notin {α : Type} {enc : α → List Value} {k : Nat} {e : TypeId} {w : World} {base : Nat} {v : Value} {xs : List α} (h : Own enc k e w base v xs) {b : Nat} (hb : b < base) : v.ownBlock ≠ some b := fun e => by
  have := (h.lt e).1
  omega
theorem below_of_grown {B : Nat} {a w w' : World} {g : Nat} (hb : Below B a w) (hg : w.grownBy w' (some g)) (hB : B ≤ g) (hw : g < w.heap.size) : Below B a w' :=
  hb.grown hg (by omega) (fun k hk => by cases hk; exact hB)
theorem below_own {B : Nat} {a w w' : World} {row : Option Nat} (hb : Below B a w) (hg : w.grownBy w' row) (hB : ∀ g, row = some g → B ≤ g) (hw : B ≤ w.heap.size := by omega) : Below B a w' := hb.grown hg hw hB
theorem Own.apart {α β : Type} {enc : α → List Value} {enc' : β → List Value} {k k' : Nat} {e e' : TypeId} {w w' : World} {base base' : Nat} {v v' : Value} {xs : List α} {ys : List β} (h : Own enc k e w base v xs) (h' : Own enc' k' e' w' base' v' ys) (hb : w.heap.size ≤ base') : v.ownBlock = none ∨ v.ownBlock ≠ v'.ownBlock := by
  cases hv : v.ownBlock with
  | none => exact .inl rfl
  | some g =>
    refine .inr fun e => ?_
    · have h1 := (h.lt hv).2
      have h2 := (h'.lt e.symm).1
      omega
/-- Rows of two types lie apart. -/
theorem Own.apart_ty {α β : Type} {enc : α → List Value} {enc' : β → List Value} {k k' : Nat} {e e' : TypeId} {w : World} {base base' : Nat} {v v' : Value} {xs : List α} {ys : List β} (h : Own enc k e w base v xs) (h' : Own enc' k' e' w base' v' ys) (he : e ≠ e') : v.ownBlock = none ∨ v.ownBlock ≠ v'.ownBlock := by
  obtain ⟨c1, _, _, hv⟩ := h
  obtain ⟨c2, _, _, hv'⟩ := h'
  rcases hv with ⟨rfl, _⟩ | ⟨g, cap, cur, rfl, _, hg, _⟩
  · exact .inl rfl
  · refine .inr fun q => ?_
    rcases hv' with ⟨rfl, _⟩ | ⟨g', cap', cur', rfl, _, hg', _⟩
    · cases q
    · obtain rfl : g = g' := by simpa [Value.ownBlock] using q
      rw [hg] at hg'
      injection hg' with q1
      injection q1 with _ q2 _
      exact he q2
/-- Element j is the mark of k + m * j. -/
def Mkd {α : Type} (mk : Int → α) (m k : Int) (xs : List α) : Prop := ∀ (j : Nat) y, xs[j]? = some y → y = mk (k + m * j)
theorem Mkd.congr {α : Type} {mk : Int → α} {m k : Int} {xs : List α} (h : Mkd mk m k xs) {j : Nat} {y : α} (hy : xs[j]? = some y) {q : Int} (hq : q = k + m * j) : y = mk q := by rw [hq]; exact h j y hy
theorem Own.own_none {α : Type} {enc : α → List Value} {k : Nat} {e : TypeId} {w : World} {base : Nat} {v : Value} {xs : List α} (h : Own enc k e w base v xs) (h0 : xs.length = 0) : v.ownBlock = none ∨ ∃ g c, v = .slice (some ⟨g, 0, none⟩) 0 c := by
  obtain ⟨cells, hE, h⟩ := h
  rcases h.2 with ⟨rfl, hn'⟩ | ⟨g, cap, cur, rfl, _⟩
  · exact .inl rfl
  · exact .inr ⟨g, cap, by rw [h0]⟩
theorem grown_trans' {a b c : World} {row : Option Nat} (h : a.grownBy b row) (k : b.grownBy c row) : a.grownBy c row :=
  ⟨k.os.trans h.os, k.tape.trans h.tape, k.output.trans h.output, Nat.le_trans h.size k.size, fun i hi hne => (k.block i (Nat.lt_of_lt_of_le hi h.size) hne).trans (h.block i hi hne)⟩
theorem grown_below {a b c : World} {row : Option Nat} (h : a.grownBy b row) (k : Below b.heap.size b c) : a.grownBy c row :=
  ⟨k.os.trans h.os, k.tape.trans h.tape, k.output.trans h.output, Nat.le_trans h.size k.size, fun i hi hne => (k.block i (Nat.lt_of_lt_of_le hi h.size)).trans (h.block i hi hne)⟩
/-- A block laid with all its elements. -/
theorem Own.lit {α : Type} {enc : α → List Value} {k : Nat} {e : TypeId} {base : Nat} (w : World) (cs : Array Value) (xs : List α) (n : Nat) (hb : base ≤ w.heap.size) (hn : xs.length = n) (hm : n ≤ maxLen) (hE : Enc enc k xs cs.toList) :
    Own enc k e (w.alloc (.cells cs e)) base (.slice (some ⟨w.heap.size, 0, none⟩) n n) xs := by
  subst hn
  exact ⟨_, hE, World.ownsRow_lit w cs xs.length hb hm (by have := hE.1; simpa using this)⟩
/-- Elements of one cell each, laid. -/
theorem Enc.map {α : Type} (f : α → Value) : ∀ xs : List α, Enc (fun x => [f x]) 1 xs (xs.map f)
  | xs => by
    refine ⟨by simp, fun i x hx j u hu => ?_⟩
    cases j with
    | zero =>
      obtain rfl : f x = u := by simpa using hu
      simp [hx]
    | succ j => simp at hu
/-! ### make -/
theorem made_get (z : Array Value) (n j : Nat) (hj : j < n) (hz : 0 < z.size) : (madeCells z n).toList[j]? = z.toList[j % z.size]? := by
  have h2 : j % z.size < z.size := Nat.mod_lt _ hz
  simp [madeCells, hj, h2]
theorem Enc.made {α : Type} {enc : α → List Value} {k : Nat} (z : Value) (zx : α) (n : Nat) (hz : z.cells.toList = enc zx) (hk : (enc zx).length = k) (h0 : 0 < k) : Enc enc k (List.replicate n zx) (madeCells z.cells (n * k)).toList := by
  have hs : z.cells.size = k := by rw [← Array.length_toList, hz, hk]
  refine ⟨by rw [Array.length_toList, size_madeCells, List.length_replicate], fun i x hx j u hu => ?_⟩
  rw [List.getElem?_replicate] at hx
  split at hx
  · rename_i hi
    obtain rfl := Option.some.inj hx
    have hj : j < k := by rw [← hk]; exact (List.getElem?_eq_some_iff.1 hu).1
    rw [made_get _ _ _ (by have := mul_lt (r := 0) hi hj; omega) (by omega), hs, Nat.mul_comm, Nat.mul_add_mod, Nat.mod_eq_of_lt hj, hz]
    exact hu
  · cases hx
section
variable {P : Program} {ops : Array Oper} {rest : List Oper} {o : Oper} {a : Act} {Q : Exit → Act → World → Prop}
/-- make([]T, n), behind at_make. -/
theorem wp_make {α : Type} (enc : α → List Value) (k : Nat) (w : World) (base : Nat) (hgd : o.guard = none) (l c : Operand) (t e : TypeId) (ho : o.op = .makeSlice t l c) (ht : P.underlying t = some (.slice e))
    (z : Value) (bytes : Nat) (hinfo : (P.info? e).map (fun i => (i.zero, i.size, i.bytes)) = some (some z, k, bytes)) (zx : α) (hz : z.cells.toList = enc zx) (hk : (enc zx).length = k) (h0 : 0 < k)
    (n : Nat) (hl : a.eval l = .int .i64 (n : Int)) (hc : a.eval c = .int .i64 (n : Int)) (hn : n * bytes ≤ 140737488355328) (hm : n ≤ maxLen) (hbase : base ≤ w.heap.size)
    (hK : ∀ g w', Own enc k e w' base (.slice (some ⟨g, 0, none⟩) n n) (List.replicate n zx) → Below w.heap.size w w' → wpList P ops Q rest (a.put o.dst (.slice (some ⟨g, 0, none⟩) n n)) w') : wpList P ops Q (o :: rest) a w := by
  obtain ⟨i, hi, hz1, hz2, hz3⟩ := info_parts hinfo
  refine wpList_make_full w hgd l c t ho base e i z k ht hi hz1 hz2 .i64 .i64 (n : Int) (n : Int) n hl hc rfl rfl (by rw [hz3, Nat.mul_comm]; omega) hm hbase fun w' hw' hg => ?_
  exact hK _ _ ⟨_, Enc.made z zx n hz hk h0, by rw [List.length_replicate]; exact hw'⟩ ⟨hg.os, hg.tape, hg.output, hg.size, fun k hk => hg.block k hk (by simp)⟩
/-- append(v, y), the element laid just ahead in a block of its own. -/
theorem wp_append1 {α : Type} (enc : α → List Value) (k : Nat) (w : World) (base : Nat) (hgd : o.guard = none) (s x : Operand) (t e tb : TypeId) (ho : o.op = .call { callee := .builtin .append, args := #[s, x], argTypes := #[t, t] }) (ht : P.underlying t = some (.slice e))
    (z : Value) (bytes : Nat) (hinfo : (P.info? e).map (fun i => (i.zero, i.size, i.bytes)) = some (some z, k, bytes)) (zx : α) (hz : z.cells.toList = enc zx) (hk : ∀ y, (enc y).length = k) (h0 : 0 < k) (h1 : ∀ y, ∀ u ∈ enc y, u.oneCell' = true)
    (v : Value) (xs : List α) (hs : a.eval s = v) (hown : Own enc k e w base v xs) (y : α) (cs : Array Value) (hcs : cs.toList = enc y) (hx : a.eval x = .slice (some ⟨w.heap.size, 0, none⟩) 1 1)
    (hn : (xs.length + 1) * bytes ≤ 140737488355328) (hm : xs.length + 1 ≤ maxLen) (hbase : base ≤ w.heap.size)
    (hK : ∀ v' w', Own enc k e w' base v' (xs ++ [y]) → w.grownBy w' v.ownBlock → wpList P ops Q rest (a.put o.dst v') w') : wpList P ops Q (o :: rest) a (w.alloc (.cells cs tb)) := by
  obtain ⟨i, hi, hz1, hz2, hz3⟩ := info_parts hinfo
  obtain ⟨cells, hE, hr⟩ := hown.alloc (.cells cs tb)
  refine wpList_append_own _ hgd s x t ho base e i z k bytes ht hi hz1 hz2 hz3 (by rw [← Array.length_toList, hz, hk]) h0 v xs.length cells hs hr ⟨w.heap.size, 0, none⟩ 1 1 (enc y) hx (by rw [hk, Nat.one_mul]) ?_ (h1 y) hm hn (by simp; omega) fun v' w' h2 h3 _ => ?_
  · intro j u hj
    have e : ((⟨w.heap.size, 0, none⟩ : Addr).add j) = ⟨w.heap.size, j, none⟩ := by
      unfold Addr.add
      split <;> simp_all
    rw [e, blk_new w cs tb j, ← Array.getElem?_toList, hcs, hj]
  · exact hK v' w' ⟨_, hE.snoc y (hk y), by rw [List.length_append, List.length_singleton]; exact h2⟩ (grown_trans' (World.grownBy_alloc _ _ _) h3)
/-- make([]T, m) with literal operands, behind at_make. -/
theorem wp_makeL {α : Type} (enc : α → List Value) (k : Nat) (w : World) (base : Nat) (hgd : o.guard = none) (m : Int) (t e : TypeId) (ho : o.op = .makeSlice t (.const (.int .i64 m)) (.const (.int .i64 m))) (ht : P.underlying t = some (.slice e))
    (z : Value) (bytes : Nat) (hinfo : (P.info? e).map (fun i => (i.zero, i.size, i.bytes)) = some (some z, k, bytes)) (zx : α) (hz : z.cells.toList = enc zx) (hk : (enc zx).length = k) (h0 : 0 < k)
    (n : Nat) (hmn : m = (n : Int)) (hn : n * bytes ≤ 140737488355328) (hm : n ≤ maxLen) (hbase : base ≤ w.heap.size)
    (hK : ∀ g w', Own enc k e w' base (.slice (some ⟨g, 0, none⟩) n n) (List.replicate n zx) → Below w.heap.size w w' → wpList P ops Q rest (a.put o.dst (.slice (some ⟨g, 0, none⟩) n n)) w') : wpList P ops Q (o :: rest) a w := by
  subst hmn
  exact wp_make enc k w base hgd _ _ t e ho ht z bytes hinfo zx hz hk h0 n rfl rfl hn hm hbase hK
end
end Go.Proofs.Ytcinaflmpdmdaaa
