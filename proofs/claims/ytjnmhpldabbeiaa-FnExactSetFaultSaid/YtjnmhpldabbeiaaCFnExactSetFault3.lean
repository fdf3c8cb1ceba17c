/- For every input FnExactSetFault returns true: the program's SetFault tells what the reference's tells, and leaves its arguments as they were. No condition. -/
import Derived.Test.YtjnmhpldabbeiaaWWords
import Derived.Test.YtjnmhpldabbeiaaWMore
import Derived.Test.YtjnmhpldabbeiaaCFnExactSetFault0
import Derived.WalkKit
import Derived.Handy
import Derived.Deep.QuietTactic
import Derived.BigQuiet
import Derived.Deep.Draws
import Derived.Deep.AppendLies
import Derived.Deep.LoopGhost
import Derived.Laws.OwnMore
import Derived.OwnWalk
import Derived.Lib.Hide
import Derived.Deep.RegionHeld3
import Derived.Deep.DeepCutAuto
import Derived.Test.YtjnmhpldabbeiaaChecked
import Derived.ProofKit
import Derived.OpenShut
import Derived.Deep.Slices
import Derived.WideKeyArgs
import Derived.Test.YtjnmhpldabbeiaaCFnExactSetFault1
import Derived.Test.YtjnmhpldabbeiaaCFnExactSetFault2
import Derived.Test.YtjnmhpldabbeiaaRows
set_option linter.unusedVariables false
set_option linter.unusedSimpArgs false
section
namespace Go.Proofs.Ytjnmhpldabbeiaa.L
open Go.RowKit Go.Proofs.YtjnmhpldabbeiaaW.PrintWords Go.Proofs.YtjnmhpldabbeiaaW.PrintLast Go.Proofs.YtjnmhpldabbeiaaW.PrintMore
theorem w64 {x : Int} (h0 : -9223372036854775808 ≤ x) (h1 : x ≤ 9223372036854775807) : wrap64 x = x := by unfold wrap64; omega
theorem len1 {α : Type} : ∀ {l : List α}, l.length = 1 → ∃ a, l = [a] | [a], _ => ⟨a, rfl⟩
theorem len2 {α : Type} : ∀ {l : List α}, l.length = 2 → ∃ a b, l = [a, b] | [a, b], _ => ⟨a, b, rfl⟩
theorem len3 {α : Type} : ∀ {l : List α}, l.length = 3 → ∃ a b c, l = [a, b, c] | [a, b, c], _ => ⟨a, b, c, rfl⟩
theorem len5 {α : Type} : ∀ {l : List α}, l.length = 5 → ∃ a b c d e, l = [a, b, c, d, e] | [a, b, c, d, e], _ => ⟨a, b, c, d, e, rfl⟩
theorem len8 {α : Type} : ∀ {l : List α}, l.length = 8 → ∃ a b c d e f g h, l = [a, b, c, d, e, f, g, h] | [a, b, c, d, e, f, g, h], _ => ⟨a, b, c, d, e, f, g, h, rfl⟩
theorem Ev.succ {α : Type} {g : Nat → Option α} {r : α} (h : Ev (fun k => g (k + 1)) r) : Ev g r := Ev.step (fun _ => rfl) h
theorem Ev.eq {α : Type} {g : Nat → Option α} {r r' : α} (h : Ev g r) (e : r = r') : Ev g r' := e ▸ h
theorem Ev.pos {α : Type} {c : Prop} [Decidable c] {f g : Nat → Option α} {r : α} (hc : c) (h : Ev f r) : Ev (fun k => if c then f k else g k) r := Ev.congr (fun k => if_pos hc) h
theorem Ev.neg {α : Type} {c : Prop} [Decidable c] {f g : Nat → Option α} {r : α} (hc : ¬ c) (h : Ev g r) : Ev (fun k => if c then f k else g k) r := Ev.congr (fun k => if_neg hc) h
/-- A callee without rounds. -/
theorem Ev.bind0 {α β : Type} {o : Option α} {f : Nat → α → Option β} {a : α} {r : β} (h : o = some a) (k : Ev (fun n => f n a) r) : Ev (fun n => o.bind (f n)) r := Ev.congr (fun n => by rw [h]; rfl) k
theorem Ev.bind1 {α β : Type} {g : Nat → Option α} {f : Nat → α → Option β} {a : α} {r : β} (h : Ev g a) (k : Ev (fun n => f n a) r) : Ev (fun n => (g n).bind (f n)) r := Ev.bind h k
theorem Ev.one {α : Type} {o : Option α} {r : α} (h : o = some r) : Ev (fun _ => o) r := ⟨0, fun _ _ => h⟩
theorem rd_nat (l : List Int) (i : Nat) (h : i < l.length) : rd l (i : Int) = l[i] := by simp [rd, List.getD_eq_getElem?_getD, h]
theorem rd_get? {l : List Int} {i : Nat} {x : Int} (h : l[i]? = some x) : rd l (i : Int) = x := by simp [rd, List.getD_eq_getElem?_getD, h]
/-- Copying element by element into as many places. -/
theorem copy_loop {α : Type} (g : Nat → List α → Int → Option (List α)) (xs : List α) (step : ∀ k (ys : List α) (i : Nat) (h : i < xs.length), ys.length = xs.length → g (k + 1) ys i = g k (ys.set i xs[i]) ((i + 1 : Nat) : Int))
    (fin : ∀ k (ys : List α), g (k + 1) ys xs.length = some ys) : ∀ (d i : Nat) (ys : List α), xs.length - i = d → i ≤ xs.length → ys.length = xs.length → Ev (fun k => g k (xs.take i ++ ys.drop i) i) xs
  | 0, i, ys, hd, hi, hl => by
    obtain rfl : i = xs.length := by omega
    refine Ev.succ (Ev.congr (fun k => fin k _) (Ev.one ?_))
    rw [List.take_length, ← hl, List.drop_length, List.append_nil]
  | d + 1, i, ys, hd, hi, hl => by
    have h : i < xs.length := by omega
    refine Ev.succ (Ev.congr (fun k => step k _ i h (by simp; omega)) ?_)
    have := copy_loop g xs step fin d (i + 1) ys (by omega) (by omega) hl
    refine Ev.congr (fun k => ?_) this
    congr 1
    rw [List.set_append_right _ _ (by simp; omega), List.take_succ_eq_append_getElem h, List.append_assoc]
    congr 1
    rw [List.length_take, Nat.min_eq_left (by omega), Nat.sub_self, List.drop_eq_getElem_cons (by omega : i < ys.length), List.set_cons_zero]
    rfl
theorem copy_all {α : Type} (g : Nat → List α → Int → Option (List α)) (xs : List α) (z : α) (step : ∀ k (ys : List α) (i : Nat) (h : i < xs.length), ys.length = xs.length → g (k + 1) ys i = g k (ys.set i xs[i]) ((i + 1 : Nat) : Int))
    (fin : ∀ k (ys : List α), g (k + 1) ys xs.length = some ys) : Ev (fun k => g k (List.replicate xs.length z) 0) xs := by
  have := copy_loop g xs step fin xs.length 0 (List.replicate xs.length z) rfl (by omega) (by simp)
  simpa using this
/-- A loop over places that only goes on. -/
theorem all_loop {β : Type} (g : Nat → Int → Option β) (n : Nat) (r : β) (step : ∀ k (i : Nat), i < n → g (k + 1) i = g k ((i + 1 : Nat) : Int)) (fin : ∀ k, g (k + 1) n = some r) : ∀ (d i : Nat), n - i = d → i ≤ n → Ev (fun k => g k i) r
  | 0, i, hd, hi => by
    obtain rfl : i = n := by omega
    exact Ev.succ (Ev.congr (fun k => fin k) (Ev.now _))
  | d + 1, i, hd, hi => Ev.succ (Ev.congr (fun k => step k i (by omega)) (all_loop g n r step fin d (i + 1) (by omega) (by omega)))
theorem all_all {β : Type} (g : Nat → Int → Option β) (n : Nat) (r : β) (step : ∀ k (i : Nat), i < n → g (k + 1) i = g k ((i + 1 : Nat) : Int)) (fin : ∀ k, g (k + 1) n = some r) : Ev (fun k => g k 0) r := all_loop g n r step fin n 0 rfl (by omega)
/-- The same where a round calls what has rounds of its own. -/
theorem ev_loop {β : Type} (g : Nat → Int → Option β) (n : Nat) (r : β) (step : ∀ (i : Nat), i < n → Ev (fun k => g k ((i + 1 : Nat) : Int)) r → Ev (fun k => g (k + 1) i) r) (fin : Ev (fun k => g (k + 1) n) r) : ∀ (d i : Nat), n - i = d → i ≤ n → Ev (fun k => g k i) r
  | 0, i, hd, hi => by
    obtain rfl : i = n := by omega
    exact Ev.succ fin
  | d + 1, i, hd, hi => Ev.succ (step i (by omega) (ev_loop g n r step fin d (i + 1) (by omega) (by omega)))
theorem ev_all {β : Type} (g : Nat → Int → Option β) (n : Nat) (r : β) (step : ∀ (i : Nat), i < n → Ev (fun k => g k ((i + 1 : Nat) : Int)) r → Ev (fun k => g (k + 1) i) r) (fin : Ev (fun k => g (k + 1) n) r) : Ev (fun k => g k 0) r := ev_loop g n r step fin n 0 rfl (by omega)
/-- Marks: element j gets mk x_j (m + c * j). -/
def marked {α : Type} (mk : α → Int → α) (c : Int) : Int → List α → List α
  | _, [] => []
  | m, x :: xs => mk x m :: marked mk c (m + c) xs
theorem marked_length {α : Type} (mk : α → Int → α) (c : Int) : ∀ (m : Int) (xs : List α), (marked mk c m xs).length = xs.length
  | _, [] => rfl
  | m, x :: xs => by simp [marked, marked_length mk c (m + c) xs]
theorem marked_get {α : Type} (mk : α → Int → α) (c : Int) : ∀ (m : Int) (xs : List α) (j : Nat) (h : j < xs.length), (marked mk c m xs)[j]'(by rw [marked_length]; exact h) = mk xs[j] (m + c * j)
  | m, x :: xs, 0, _ => by simp [marked]
  | m, x :: xs, j + 1, h => by
    simp only [marked, List.getElem_cons_succ]
    rw [marked_get mk c (m + c) xs j (by simpa using h)]
    congr 1
    have : c * ((j + 1 : Nat) : Int) = c * (j : Int) + c := by rw [Int.natCast_add, Int.mul_add]; simp
    omega
theorem mark_loop {α : Type} (g : Nat → List α → Int → Int → Option (Int × List α)) (mk : α → Int → α) (c : Int) (hc : 0 ≤ c) (hc2 : c ≤ 4096) (xs : List α) (m : Int) (hm0 : 0 ≤ m) (hm : m + c * xs.length ≤ 4611686018427387904)
    (step : ∀ k (ys : List α) (i : Nat) (q : Int) (h : i < xs.length) (hl : ys.length = xs.length), ys[i] = xs[i] → 0 ≤ q → q ≤ 4611686018427387904 → g (k + 1) ys q i = g k (ys.set i (mk xs[i] q)) (q + c) ((i + 1 : Nat) : Int))
    (fin : ∀ k (ys : List α) (q : Int), ys.length = xs.length → g (k + 1) ys q xs.length = some (q, ys)) : ∀ (d i : Nat), xs.length - i = d → i ≤ xs.length → Ev (fun k => g k ((marked mk c m xs).take i ++ xs.drop i) (m + c * i) i) (m + c * xs.length, marked mk c m xs)
  | 0, i, hd, hi => by
    obtain rfl : i = xs.length := by omega
    refine Ev.succ (Ev.congr (fun k => fin k _ _ (by simp [marked_length])) (Ev.one ?_))
    rw [List.drop_length, List.append_nil, List.take_of_length_le (by rw [marked_length]; omega)]
  | d + 1, i, hd, hi => by
    have h : i < xs.length := by omega
    have hM : (marked mk c m xs).length = xs.length := marked_length mk c m xs
    have hle : c * (i : Int) ≤ c * (xs.length : Int) := Int.mul_le_mul_of_nonneg_left (by omega) hc
    have hge : 0 ≤ c * (i : Int) := Int.mul_nonneg hc (by omega)
    refine Ev.succ (Ev.congr (fun k => step k _ i _ h (by simp; omega) ?_ (by omega) (by omega)) ?_)
    · rw [List.getElem_append_right (by simp; omega)]
      simp [Nat.min_eq_left (Nat.le_of_lt h), hM, List.length_take]
    · have := mark_loop g mk c hc hc2 xs m hm0 hm step fin d (i + 1) (by omega) (by omega)
      have e : m + c * (i : Int) + c = m + c * ((i + 1 : Nat) : Int) := by rw [Int.natCast_add, Int.mul_add]; simp; omega
      refine Ev.congr (fun k => ?_) this
      rw [e]
      congr 1
      rw [List.set_append_right _ _ (by simp; omega), List.take_succ_eq_append_getElem (by omega : i < (marked mk c m xs).length), List.append_assoc, marked_get mk c m xs i h]
      congr 1
      rw [List.length_take, Nat.min_eq_left (by omega), Nat.sub_self, List.drop_eq_getElem_cons h, List.set_cons_zero]
      rfl
theorem mark_all {α : Type} (g : Nat → List α → Int → Int → Option (Int × List α)) (mk : α → Int → α) (c : Int) (hc : 0 ≤ c) (hc2 : c ≤ 4096) (xs : List α) (m : Int) (hm0 : 0 ≤ m) (hm : m + c * xs.length ≤ 4611686018427387904)
    (step : ∀ k (ys : List α) (i : Nat) (q : Int) (h : i < xs.length) (hl : ys.length = xs.length), ys[i] = xs[i] → 0 ≤ q → q ≤ 4611686018427387904 → g (k + 1) ys q i = g k (ys.set i (mk xs[i] q)) (q + c) ((i + 1 : Nat) : Int))
    (fin : ∀ k (ys : List α) (q : Int), ys.length = xs.length → g (k + 1) ys q xs.length = some (q, ys)) : Ev (fun k => g k xs m 0) (m + c * xs.length, marked mk c m xs) := by
  have := mark_loop g mk c hc hc2 xs m hm0 hm step fin xs.length 0 (by omega) (by omega)
  simpa using this
/-- Held: the marks are found again. -/
theorem held_loop {α : Type} (g : Nat → Int → Int → Option Int) (c : Int) (hc : 0 ≤ c) (n : Nat) (m : Int) (hm0 : 0 ≤ m) (hm : m + c * n ≤ 4611686018427387904)
    (step : ∀ k (i : Nat), i < n → 0 ≤ m + c * i → m + c * i ≤ 4611686018427387904 → g (k + 1) (m + c * i) i = g k (m + c * i + c) ((i + 1 : Nat) : Int)) (fin : ∀ k (q : Int), g (k + 1) q n = some q) : ∀ (d i : Nat), n - i = d → i ≤ n → Ev (fun k => g k (m + c * i) i) (m + c * n)
  | 0, i, hd, hi => by
    obtain rfl : i = n := by omega
    exact Ev.succ (Ev.congr (fun k => fin k _) (Ev.now _))
  | d + 1, i, hd, hi => by
    have hle : c * (i : Int) ≤ c * (n : Int) := Int.mul_le_mul_of_nonneg_left (by omega) hc
    have hge : 0 ≤ c * (i : Int) := Int.mul_nonneg hc (by omega)
    have e : m + c * (i : Int) + c = m + c * ((i + 1 : Nat) : Int) := by rw [Int.natCast_add, Int.mul_add]; simp; omega
    refine Ev.succ (Ev.congr (fun k => step k i (by omega) (by omega) (by omega)) ?_)
    rw [e]
    exact held_loop (α := α) g c hc n m hm0 hm step fin d (i + 1) (by omega) (by omega)
theorem held_all (g : Nat → Int → Int → Option Int) (c : Int) (hc : 0 ≤ c) (n : Nat) (m : Int) (hm0 : 0 ≤ m) (hm : m + c * n ≤ 4611686018427387904)
    (step : ∀ k (i : Nat), i < n → 0 ≤ m + c * i → m + c * i ≤ 4611686018427387904 → g (k + 1) (m + c * i) i = g k (m + c * i + c) ((i + 1 : Nat) : Int)) (fin : ∀ k (q : Int), g (k + 1) q n = some q) : Ev (fun k => g k m 0) (m + c * n) := by
  have := held_loop (α := Unit) g c hc n m hm0 hm step fin n 0 (by omega) (by omega)
  simpa using this
end Go.Proofs.Ytjnmhpldabbeiaa.L
end
section
namespace Go.Proofs.Ytjnmhpldabbeiaa.Q
open Go.RowKit Go.Proofs.YtjnmhpldabbeiaaW.PrintWords Go.Proofs.YtjnmhpldabbeiaaW.PrintLast Go.Proofs.YtjnmhpldabbeiaaW.PrintMore Go.Proofs.Ytjnmhpldabbeiaa.L
theorem within_eq (a b c : Int) : impl_within.f a b c = some (decide (b ≤ a ∧ a ≤ c)) := by
  unfold impl_within.f
  by_cases h : b ≤ a <;> simp [h]
theorem l1In_eq (a b c : Int) : spec_l1In.f a b c = some (decide (b ≤ a ∧ a ≤ c)) := by
  unfold spec_l1In.f
  by_cases h : b ≤ a <;> simp [h]
end Go.Proofs.Ytjnmhpldabbeiaa.Q
end
section
namespace Go.Proofs.Ytjnmhpldabbeiaa.M
open Go.RowKit

/-! ### ends: contracts are said with an open post R -/
/-- The post behind a name: the walk does not look into it. -/
def Fin (R : Ending → World → Prop) (e : Ending) (w : World) : Prop := R e w
theorem retI {R : Ending → World → Prop} {w : World} {a b : Int} (h : R (.returned (.int .i64 a)) w) (e : b = a) : Fin R (.returned (.int .i64 b)) w := by rw [e]; exact h
theorem retB {R : Ending → World → Prop} {w : World} {a b : Bool} (h : R (.returned (.bool a)) w) (e : b = a) : Fin R (.returned (.bool b)) w := by rw [e]; exact h
theorem retV {R : Ending → World → Prop} {w : World} {a b : Value} (h : R (.returned a) w) (e : b = a) : Fin R (.returned b) w := by rw [e]; exact h

/-! ### cells in line -/
/-- The values vs lie from p on. -/
def At (w : World) (p : Addr) (vs : List Value) : Prop := (∀ v, vs[0]? = some v → w.cell? p = some v) ∧ ∀ j v, vs[j + 1]? = some v → w.cell? ⟨p.block, p.off + (j + 1), none⟩ = some v
theorem cell_below {w w' : World} {p : Addr} {v : Value} (hb : Below w.heap.size w w') (h : w.cell? p = some v) : w'.cell? p = some v := (hb.cell (World.block_lt_of_cell? w _ h)).trans h
theorem At.below {w w' : World} {p : Addr} {vs : List Value} (h : At w p vs) (hb : Below w.heap.size w w') : At w' p vs :=
  ⟨fun v hv => cell_below hb (h.1 v hv), fun j v hv => cell_below hb (h.2 j v hv)⟩
section
variable {w : World} {p : Addr} {a b c d e f g h : Value}
theorem At.one (x : At w p [a]) : w.cell? p = some a := x.1 _ rfl
theorem At.two (x : At w p [a, b]) : w.cell? p = some a ∧ w.cell? ⟨p.block, p.off + 1, none⟩ = some b := ⟨x.1 _ rfl, x.2 0 _ rfl⟩
theorem At.three (x : At w p [a, b, c]) : w.cell? p = some a ∧ w.cell? ⟨p.block, p.off + 1, none⟩ = some b ∧ w.cell? ⟨p.block, p.off + 2, none⟩ = some c := ⟨x.1 _ rfl, x.2 0 _ rfl, x.2 1 _ rfl⟩
theorem At.five (x : At w p [a, b, c, d, e]) : w.cell? p = some a ∧ w.cell? ⟨p.block, p.off + 1, none⟩ = some b ∧ w.cell? ⟨p.block, p.off + 2, none⟩ = some c ∧ w.cell? ⟨p.block, p.off + 3, none⟩ = some d ∧ w.cell? ⟨p.block, p.off + 4, none⟩ = some e :=
  ⟨x.1 _ rfl, x.2 0 _ rfl, x.2 1 _ rfl, x.2 2 _ rfl, x.2 3 _ rfl⟩
theorem At.eight (x : At w p [a, b, c, d, e, f, g, h]) : w.cell? p = some a ∧ w.cell? ⟨p.block, p.off + 1, none⟩ = some b ∧ w.cell? ⟨p.block, p.off + 2, none⟩ = some c ∧ w.cell? ⟨p.block, p.off + 3, none⟩ = some d ∧ w.cell? ⟨p.block, p.off + 4, none⟩ = some e ∧
    w.cell? ⟨p.block, p.off + 5, none⟩ = some f ∧ w.cell? ⟨p.block, p.off + 6, none⟩ = some g ∧ w.cell? ⟨p.block, p.off + 7, none⟩ = some h :=
  ⟨x.1 _ rfl, x.2 0 _ rfl, x.2 1 _ rfl, x.2 2 _ rfl, x.2 3 _ rfl, x.2 4 _ rfl, x.2 5 _ rfl, x.2 6 _ rfl⟩
end
theorem keeps_refl (w : World) : ∀ p, (w.cell? p).isSome = true → w.drew.cell? p = w.cell? p := fun _ _ => rfl
theorem keeps_below {w w' : World} (hb : Below w.heap.size w w') : ∀ p, (w.cell? p).isSome = true → w'.cell? p = w.cell? p := fun p hp => by
  cases hc : w.cell? p with
  | none => rw [hc] at hp; cases hp
  | some v => exact cell_below hb hc
theorem keeps_trans {w w1 w2 : World} (hk : ∀ p, (w.cell? p).isSome = true → w1.cell? p = w.cell? p) (hb : Below w1.heap.size w1 w2) : ∀ p, (w.cell? p).isSome = true → w2.cell? p = w.cell? p := fun p hp => by
  have h1 := hk p hp
  exact (keeps_below hb p (by rw [h1]; exact hp)).trans h1
theorem below_drew {w w' : World} (hb : Below w.drew.heap.size w.drew w') : Below w.heap.size w w' := ⟨hb.os, hb.tape, hb.output, hb.size, hb.block⟩
theorem bdN {B : Nat} {a w : World} (h : Below B a w) (n : Nat) : Below B a (w.drewN n) := ⟨h.os, h.tape, h.output, h.size, h.block⟩
/-- All cells of a block, as a rule for the walk. -/
theorem blk_new (w : World) (cs : Array Value) (t : TypeId) : ∀ i, (w.alloc (.cells cs t)).cell? ⟨w.heap.size, i, none⟩ = cs[i]? := fun i => World.cell?_alloc_new w cs t i
theorem blk_keep {w w' : World} {g : Nat} {cs : Array Value} (h : ∀ i, w.cell? ⟨g, i, none⟩ = cs[i]?) (hg : g < w.heap.size) (hb : Below w.heap.size w w') : ∀ i, w'.cell? ⟨g, i, none⟩ = cs[i]? := fun i => (hb.cell (p := ⟨g, i, none⟩) hg).trans (h i)
theorem blk_alloc {w : World} {g : Nat} {cs : Array Value} (h : ∀ i, w.cell? ⟨g, i, none⟩ = cs[i]?) (hg : g < w.heap.size) (o : Obj) : ∀ i, (w.alloc o).cell? ⟨g, i, none⟩ = cs[i]? := blk_keep h hg ((Below.refl _ _).alloc (Nat.le_refl _) o)
theorem frz_new (w : World) (cs : Array Value) (t : TypeId) : ∀ i, (w.alloc (.cells cs t)).frozen? ⟨w.heap.size, i, none⟩ = false := fun i => World.frozen?_alloc_new w cs t i
theorem frz_keep {w w' : World} {g : Nat} (h : ∀ i, w.frozen? ⟨g, i, none⟩ = false) (hg : g < w.heap.size) (hb : Below w.heap.size w w') : ∀ i, w'.frozen? ⟨g, i, none⟩ = false := fun i => (hb.frozen (p := ⟨g, i, none⟩) hg).trans (h i)
/-- The box laid first, behind something that leaves old memory alone. -/
theorem box_new {w w1 : World} (cs : Array Value) (t : TypeId) (hb : Below (w.alloc (.cells cs t)).heap.size (w.alloc (.cells cs t)) w1) :
    (∀ i, w1.cell? ⟨w.heap.size, i, none⟩ = cs[i]?) ∧ (∀ i, w1.frozen? ⟨w.heap.size, i, none⟩ = false) ∧ w.heap.size < w1.heap.size ∧ Below w.heap.size w w1 :=
  ⟨blk_keep (blk_new w cs t) (by simp) hb, frz_keep (frz_new w cs t) (by simp) hb, Nat.lt_of_lt_of_le (by simp) hb.size, Below.trans ((Below.refl _ _).alloc (Nat.le_refl _) _) (hb.mono (by simp))⟩
theorem blk_grown {w w' : World} {g : Nat} {cs : Array Value} {row : Option Nat} (h : ∀ i, w.cell? ⟨g, i, none⟩ = cs[i]?) (hg : g < w.heap.size) (hb : w.grownBy w' row) (hne : row ≠ some g) : ∀ i, w'.cell? ⟨g, i, none⟩ = cs[i]? :=
  fun i => (World.cell?_of_block (hb.block _ hg (fun e => hne e.symm))).trans (h i)
theorem frz_alloc {w : World} {g : Nat} (h : ∀ i, w.frozen? ⟨g, i, none⟩ = false) (hg : g < w.heap.size) (o : Obj) : ∀ i, (w.alloc o).frozen? ⟨g, i, none⟩ = false := frz_keep h hg ((Below.refl _ _).alloc (Nat.le_refl _) o)
theorem blk_set {w : World} {g : Nat} {cs : Array Value} (h : ∀ i, w.cell? ⟨g, i, none⟩ = cs[i]?) (j : Nat) (v : Value) (hj : j < cs.size) : ∀ i, (w.setCell ⟨g, j, none⟩ v).cell? ⟨g, i, none⟩ = (cs.setIfInBounds j v)[i]? := fun i => by
  by_cases e : j = i
  · subst e
    rw [World.cell?_setCell_same _ _ _ ((h j).trans (Array.getElem?_eq_getElem hj))]
    simp [hj]
  · rw [World.cell?_setCell_other _ _ _ _ (fun q => e (by injection q)), h i]
    simp [e]
theorem blk_else {w : World} {g g' : Nat} {cs : Array Value} (h : ∀ i, w.cell? ⟨g, i, none⟩ = cs[i]?) (hg : g' ≠ g) (j : Nat) (v : Value) : ∀ i, (w.setCell ⟨g', j, none⟩ v).cell? ⟨g, i, none⟩ = cs[i]? := fun i => by
  rw [World.cell?_setCell_other _ _ _ _ (fun q => hg (by injection q)), h i]
theorem frz_set {w : World} {g : Nat} (h : ∀ i, w.frozen? ⟨g, i, none⟩ = false) (a : Addr) (v : Value) : ∀ i, (w.setCell a v).frozen? ⟨g, i, none⟩ = false := fun i => by rw [World.frozen?_setCell]; exact h i
/-- Three boxes laid one behind another. -/
theorem box3 (w : World) (a b c : Array Value) (s t u : TypeId) (W : World) (hW : W = ((w.alloc (.cells a s)).alloc (.cells b t)).alloc (.cells c u)) :
    (∀ i, W.cell? ⟨w.heap.size, i, none⟩ = a[i]?) ∧ (∀ i, W.cell? ⟨w.heap.size + 1, i, none⟩ = b[i]?) ∧ (∀ i, W.cell? ⟨w.heap.size + 2, i, none⟩ = c[i]?) ∧
    (∀ i, W.frozen? ⟨w.heap.size, i, none⟩ = false) ∧ (∀ i, W.frozen? ⟨w.heap.size + 1, i, none⟩ = false) ∧ (∀ i, W.frozen? ⟨w.heap.size + 2, i, none⟩ = false) ∧ W.heap.size = w.heap.size + 3 ∧ Below w.heap.size w W := by
  have e1 : (w.alloc (.cells a s)).heap.size = w.heap.size + 1 := by simp
  have e2 : ((w.alloc (.cells a s)).alloc (.cells b t)).heap.size = w.heap.size + 2 := by simp
  have b1 := blk_new (w.alloc (.cells a s)) b t
  have f1 := frz_new (w.alloc (.cells a s)) b t
  have b2 := blk_new ((w.alloc (.cells a s)).alloc (.cells b t)) c u
  have f2 := frz_new ((w.alloc (.cells a s)).alloc (.cells b t)) c u
  rw [e1] at b1 f1
  rw [e2] at b2 f2
  subst hW
  exact ⟨blk_alloc (blk_alloc (blk_new w a s) (by omega) _) (by omega) _, blk_alloc b1 (by omega) _, b2, frz_alloc (frz_alloc (frz_new w a s) (by omega) _) (by omega) _, frz_alloc f1 (by omega) _, f2, by simp, (((Below.refl _ _).alloc (Nat.le_refl _) _).alloc (by omega) _).alloc (by omega) _⟩
/-- Two boxes. -/
theorem box2 (w : World) (a b : Array Value) (s t : TypeId) (W : World) (hW : W = (w.alloc (.cells a s)).alloc (.cells b t)) :
    (∀ i, W.cell? ⟨w.heap.size, i, none⟩ = a[i]?) ∧ (∀ i, W.cell? ⟨w.heap.size + 1, i, none⟩ = b[i]?) ∧
    (∀ i, W.frozen? ⟨w.heap.size, i, none⟩ = false) ∧ (∀ i, W.frozen? ⟨w.heap.size + 1, i, none⟩ = false) ∧ W.heap.size = w.heap.size + 2 ∧ Below w.heap.size w W := by
  have e1 : (w.alloc (.cells a s)).heap.size = w.heap.size + 1 := by simp
  have b1 := blk_new (w.alloc (.cells a s)) b t
  have f1 := frz_new (w.alloc (.cells a s)) b t
  rw [e1] at b1 f1
  subst hW
  exact ⟨blk_alloc (blk_new w a s) (by omega) _, b1, frz_alloc (frz_new w a s) (by omega) _, f1, by simp, ((Below.refl _ _).alloc (Nat.le_refl _) _).alloc (by omega) _⟩
/-- One box. -/
theorem box1 (w : World) (a : Array Value) (s : TypeId) (W : World) (hW : W = w.alloc (.cells a s)) :
    (∀ i, W.cell? ⟨w.heap.size, i, none⟩ = a[i]?) ∧ (∀ i, W.frozen? ⟨w.heap.size, i, none⟩ = false) ∧ W.heap.size = w.heap.size + 1 ∧ Below w.heap.size w W := by
  subst hW
  exact ⟨blk_new w a s, frz_new w a s, by simp, (Below.refl _ _).alloc (Nat.le_refl _) _⟩
theorem size_alloc (w : World) (o : Obj) : (w.alloc o).heap.size = w.heap.size + 1 := by simp
theorem add_add (a : Addr) (i j : Nat) : (a.add i).add j = a.add (i + j) := by
  unfold Addr.add
  by_cases hi : i = 0 <;> by_cases hj : j = 0 <;> simp [hi, hj, Nat.add_assoc]
theorem add_block (a : Addr) (n : Nat) : (a.add n).block = a.block := by unfold Addr.add; split <;> rfl
theorem add_succ (p : Addr) (j : Nat) : p.add (j + 1) = ⟨p.block, p.off + (j + 1), none⟩ := by simp [Addr.add]
/-- The same by 'add'. -/
theorem At.of_add {w : World} {p : Addr} {vs : List Value} (h : ∀ j v, vs[j]? = some v → w.cell? (p.add j) = some v) : At w p vs :=
  ⟨fun v hv => h 0 v hv, fun j v hv => by rw [← add_succ]; exact h _ v hv⟩
theorem At.add {w : World} {p : Addr} {vs : List Value} (h : At w p vs) (j : Nat) (v : Value) (hv : vs[j]? = some v) : w.cell? (p.add j) = some v := by
  cases j with
  | zero => exact h.1 v hv
  | succ j => rw [add_succ]; exact h.2 j v hv

/-! ### rows that are read -/
/-- At A lie the elements xs, each k cells by enc. -/
def Row {α : Type} (enc : α → List Value) (k : Nat) (w : World) (A : Option Addr) (xs : List α) : Prop :=
  ∀ i x, xs[i]? = some x → ∃ ad, A = some ad ∧ At w (ad.add (i * k)) (enc x)
theorem drop_cons {α : Type} {xs : List α} {i : Nat} {x : α} (h : xs[i]? = some x) : xs.drop i = x :: xs.drop (i + 1) := by
  obtain ⟨hi, e⟩ := List.getElem?_eq_some_iff.1 h
  rw [List.drop_eq_getElem_cons hi, e]
theorem get_lt {α : Type} {xs : List α} {i : Nat} (h : i < xs.length) : ∃ x, xs[i]? = some x := ⟨_, List.getElem?_eq_getElem h⟩
section
variable {α : Type} {enc : α → List Value} {k : Nat} {w w' : World} {A : Option Addr} {xs : List α}
theorem Row.below (h : Row enc k w A xs) (hb : Below w.heap.size w w') : Row enc k w' A xs := fun i x hx => by
  obtain ⟨ad, e, ha⟩ := h i x hx
  exact ⟨ad, e, ha.below hb⟩
theorem Row.keeps (h : Row enc k w A xs) (hk : ∀ p, (w.cell? p).isSome = true → w'.cell? p = w.cell? p) : Row enc k w' A xs := fun i x hx => by
  obtain ⟨ad, e, h1, h2⟩ := h i x hx
  exact ⟨ad, e, fun v hv => (hk _ (by rw [h1 v hv]; rfl)).trans (h1 v hv), fun j v hv => (hk _ (by rw [h2 j v hv]; rfl)).trans (h2 j v hv)⟩
theorem Row.sub {ad : Addr} (h : Row enc k w (some ad) xs) (i m : Nat) : Row enc k w (some (ad.add (i * k))) ((xs.drop i).take m) := fun j x hx => by
  have hj : (xs.drop i)[j]? = some x := by
    rw [List.getElem?_take] at hx
    split at hx
    · exact hx
    · cases hx
  rw [List.getElem?_drop] at hj
  obtain ⟨ad', e, hA⟩ := h (i + j) x hj
  cases e
  refine ⟨_, rfl, ?_⟩
  rw [add_add, ← Nat.add_mul]
  exact hA
theorem Row.nil (enc : α → List Value) (k : Nat) (w : World) (A : Option Addr) : Row enc k w A [] := fun i x hx => by simp at hx
theorem Row.one {f : α → Value} (h : Row (fun x => [f x]) 1 w A xs) {i : Nat} {x : α} (hx : xs[i]? = some x) : ∃ ad, A = some ad ∧ w.cell? (ad.add i) = some (f x) := by
  obtain ⟨ad, e, ha⟩ := h i x hx
  exact ⟨ad, e, by have := ha.one; rwa [Nat.mul_one] at this⟩
end

/-! ### rows of the call's own -/
/-- The cells hold the elements xs, k cells each. -/
def Enc {α : Type} (enc : α → List Value) (k : Nat) (xs : List α) (cells : List Value) : Prop :=
  cells.length = xs.length * k ∧ ∀ i x, xs[i]? = some x → ∀ j u, (enc x)[j]? = some u → cells[i * k + j]? = some u
theorem mul_lt {i i' j k r : Nat} (h : i < i') (hj : j < k) : i * k + j < i' * k + r := by
  have : (i + 1) * k ≤ i' * k := Nat.mul_le_mul_right _ h
  rw [Nat.add_mul] at this
  omega
def setAll (c : List Value) (p : Nat) : List Value → List Value
  | [] => c
  | v :: vs => setAll (c.set p v) (p + 1) vs
theorem setAll_len : ∀ (vs : List Value) (c : List Value) (p : Nat), (setAll c p vs).length = c.length
  | [], _, _ => rfl
  | v :: vs, c, p => by rw [setAll, setAll_len vs]; simp
theorem setAll_out : ∀ (vs : List Value) (c : List Value) (p q : Nat), (q < p ∨ p + vs.length ≤ q) → (setAll c p vs)[q]? = c[q]?
  | [], _, _, _, _ => rfl
  | v :: vs, c, p, q, h => by
    rw [setAll, setAll_out vs _ _ _ (by simp only [List.length_cons] at h; omega), List.getElem?_set_ne (by simp only [List.length_cons] at h; omega)]
theorem setAll_in : ∀ (vs : List Value) (c : List Value) (p j : Nat) (u : Value), p + vs.length ≤ c.length → vs[j]? = some u → (setAll c p vs)[p + j]? = some u
  | [], _, _, _, _, _, h => by simp at h
  | v :: vs, c, p, 0, u, hl, h => by
    obtain rfl : v = u := by simpa using h
    rw [setAll, setAll_out vs _ _ _ (by omega), Nat.add_zero, List.getElem?_set_self (by simp only [List.length_cons] at hl; omega)]
  | v :: vs, c, p, j + 1, u, hl, h => by
    rw [setAll, show p + (j + 1) = p + 1 + j by omega]
    exact setAll_in vs _ _ _ _ (by simp only [List.length_cons, List.length_set] at hl ⊢; omega) (by simpa using h)
section
variable {α : Type} {enc : α → List Value} {k : Nat} {xs : List α} {c : List Value}
theorem Enc.nil : Enc enc k [] [] := ⟨by simp, fun i x h => by simp at h⟩
theorem Enc.snoc (h : Enc enc k xs c) (x : α) (hx : (enc x).length = k) : Enc enc k (xs ++ [x]) (c ++ enc x) := by
  refine ⟨by rw [List.length_append, h.1, hx, List.length_append, List.length_singleton, Nat.add_mul, Nat.one_mul], fun i y hy j u hu => ?_⟩
  by_cases hi : i < xs.length
  · rw [List.getElem?_append_left hi] at hy
    have := h.2 i y hy j u hu
    rw [List.getElem?_append_left (List.getElem?_eq_some_iff.1 this).1, this]
  · have hl : i < (xs ++ [x]).length := (List.getElem?_eq_some_iff.1 hy).1
    rw [List.length_append, List.length_singleton] at hl
    obtain rfl : i = xs.length := by omega
    rw [List.getElem?_append_right (Nat.le_refl _), Nat.sub_self] at hy
    obtain rfl : x = y := by simpa using hy
    rw [List.getElem?_append_right (by rw [h.1]; omega), h.1, Nat.add_sub_cancel_left, hu]
theorem Enc.append {ys : List α} {d : List Value} (h : Enc enc k xs c) (hd : Enc enc k ys d) : Enc enc k (xs ++ ys) (c ++ d) := by
  refine ⟨by rw [List.length_append, h.1, hd.1, List.length_append, Nat.add_mul], fun i y hy j u hu => ?_⟩
  by_cases hi : i < xs.length
  · rw [List.getElem?_append_left hi] at hy
    have := h.2 i y hy j u hu
    rw [List.getElem?_append_left (List.getElem?_eq_some_iff.1 this).1, this]
  · rw [List.getElem?_append_right (by omega)] at hy
    have hm : xs.length * k ≤ i * k := Nat.mul_le_mul_right _ (by omega)
    rw [List.getElem?_append_right (by rw [h.1]; omega), h.1, show i * k + j - xs.length * k = (i - xs.length) * k + j by rw [Nat.sub_mul]; omega]
    exact hd.2 _ y hy j u hu
theorem Enc.set (hk : ∀ x, (enc x).length = k) (h : Enc enc k xs c) {i : Nat} (hi : i < xs.length) (x : α) : Enc enc k (xs.set i x) (setAll c (i * k) (enc x)) := by
  refine ⟨by rw [setAll_len, h.1, List.length_set], fun i' y hy j u hu => ?_⟩
  have hj : j < k := by rw [← hk y]; exact (List.getElem?_eq_some_iff.1 hu).1
  by_cases e : i' = i
  · subst e
    rw [List.getElem?_set_self hi] at hy
    obtain rfl := Option.some.inj hy
    refine setAll_in _ _ _ _ _ ?_ hu
    rw [hk, h.1]
    have : (i' + 1) * k ≤ xs.length * k := Nat.mul_le_mul_right _ hi
    rw [Nat.add_mul] at this
    omega
  · rw [List.getElem?_set_ne (Ne.symm e)] at hy
    rw [setAll_out _ _ _ _ ?_]
    · exact h.2 i' y hy j u hu
    · rw [hk]
      rcases Nat.lt_or_gt_of_ne e with h' | h'
      · have := mul_lt (r := 0) h' hj; omega
      · have : (i + 1) * k ≤ i' * k := Nat.mul_le_mul_right _ h'
        rw [Nat.add_mul] at this
        omega
theorem Enc.take (hk : ∀ x, (enc x).length = k) (h : Enc enc k xs c) (n : Nat) (hn : n ≤ xs.length) : Enc enc k (xs.take n) (c.take (n * k)) := by
  have hm : n * k ≤ xs.length * k := Nat.mul_le_mul_right _ hn
  refine ⟨by rw [List.length_take, h.1, List.length_take]; rw [Nat.min_eq_left hm, Nat.min_eq_left hn], fun i x hx j u hu => ?_⟩
  have hi : i < n := by have := (List.getElem?_eq_some_iff.1 hx).1; rw [List.length_take] at this; omega
  rw [List.getElem?_take_of_lt hi] at hx
  have hj : j < k := by rw [← hk x]; exact (List.getElem?_eq_some_iff.1 hu).1
  rw [List.getElem?_take_of_lt (by have := mul_lt (r := 0) hi hj; omega)]
  exact h.2 i x hx j u hu
end
/-- v owns a row of elements xs (type e), in a block from base on. -/
def Own {α : Type} (enc : α → List Value) (k : Nat) (e : TypeId) (w : World) (base : Nat) (v : Value) (xs : List α) : Prop := ∃ cells, Enc enc k xs cells ∧ w.ownsRow base e k v xs.length cells
section
variable {α : Type} {enc : α → List Value} {k : Nat} {e : TypeId} {w w' : World} {base base' : Nat} {v : Value} {xs : List α}
theorem Own.lower (h : Own enc k e w base v xs) (hb : base' ≤ base) : Own enc k e w base' v xs := by
  obtain ⟨cells, hE, h⟩ := h
  refine ⟨cells, hE, h.1, ?_⟩
  rcases h.2 with h2 | ⟨g, cap, cur, h3, h4, r⟩
  · exact .inl h2
  · exact .inr ⟨g, cap, cur, h3, by omega, r⟩
theorem grown_of_below (hb : Below w.heap.size w w') : w.grownBy w' none := ⟨hb.os, hb.tape, hb.output, hb.size, fun k hk _ => hb.block k hk⟩
theorem Own.grown (h : Own enc k e w base v xs) {row : Option Nat} (hg : w.grownBy w' row) (hne : v.ownBlock = none ∨ v.ownBlock ≠ row) : Own enc k e w' base v xs := by
  obtain ⟨cells, hE, h⟩ := h
  exact ⟨cells, hE, World.ownsRow.kept h hg hne⟩
theorem Own.below (h : Own enc k e w base v xs) (hb : Below w.heap.size w w') : Own enc k e w' base v xs := h.grown (grown_of_below hb) (by cases v.ownBlock <;> simp)
theorem Own.alloc (h : Own enc k e w base v xs) (o : Obj) : Own enc k e (w.alloc o) base v xs := h.grown (World.grownBy_alloc w o none) (by cases v.ownBlock <;> simp)
theorem Own.drew (h : Own enc k e w base v xs) : Own enc k e w.drew base v xs := h
theorem Own.drewN (h : Own enc k e w base v xs) (n : Nat) : Own enc k e (w.drewN n) base v xs := h
theorem Own.nil (w : World) (base : Nat) : Own enc k e w base (.slice none 0 0) [] := ⟨[], Enc.nil, World.ownsRow_nil w base e k⟩
theorem Own.lt (h : Own enc k e w base v xs) {g : Nat} (hg : v.ownBlock = some g) : base ≤ g ∧ g < w.heap.size := by
  obtain ⟨cells, hE, h⟩ := h
  exact World.ownsRow.lt h g hg
/-- What is owned reads so. -/
theorem Own.row (h : Own enc k e w base v xs) : ∃ A c, v = .slice A xs.length c ∧ xs.length ≤ c ∧ c ≤ maxLen ∧ Row enc k w A xs := by
  obtain ⟨cells, hE, h⟩ := h
  have h0 := h
  rcases h.2 with ⟨rfl, hn⟩ | ⟨g, cap, cur, rfl, hb, hg, hnc, hcm, hcs, ht⟩
  · refine ⟨none, 0, by rw [hn], by omega, by unfold maxLen; omega, ?_⟩
    have : xs = [] := List.eq_nil_of_length_eq_zero hn
    subst this
    exact Row.nil _ _ _ _
  · refine ⟨some ⟨g, 0, none⟩, cap, rfl, hnc, hcm, fun i x hx => ⟨_, rfl, At.of_add fun j u hu => ?_⟩⟩
    rw [add_add]
    exact World.ownsRow.cells h0 (g := g) rfl _ _ (hE.2 i x hx j u hu)
/-- The shape, where there is an element. -/
theorem Own.rowOf {A : Option Addr} {n c : Nat} (h : Own enc k e w base (.slice A n c) xs) : Row enc k w A xs := by
  obtain ⟨A', c', e, _, _, r⟩ := h.row
  injection e with e1
  subst e1
  exact r
theorem Own.shape (h : Own enc k e w base v xs) (hn : 0 < xs.length) : ∃ g c, v = .slice (some ⟨g, 0, none⟩) xs.length c ∧ base ≤ g ∧ g < w.heap.size ∧ xs.length ≤ c ∧ c ≤ maxLen := by
  obtain ⟨cells, hE, h⟩ := h
  rcases h.2 with ⟨rfl, hn'⟩ | ⟨g, cap, cur, rfl, hb, hg, hnc, hcm, hcs, ht⟩
  · omega
  · exact ⟨g, cap, rfl, hb, (Array.getElem?_eq_some_iff.1 hg).1, hnc, hcm⟩
end
/-! ### an owned row whose block is known: read, write -/
section
variable {α : Type} {enc : α → List Value} {k : Nat} {e : TypeId} {w : World} {base : Nat} {g n c : Nat} {xs : List α}
theorem Own.len (h : Own enc k e w base (.slice (some ⟨g, 0, none⟩) n c) xs) : xs.length = n := by
  obtain ⟨cells, hE, h⟩ := h
  rcases h.2 with ⟨h', _⟩ | ⟨g', cap, cur, h', _⟩
  · cases h'
  · injection h' with _ h2 _
    exact h2.symm
theorem Own.at_ (h : Own enc k e w base (.slice (some ⟨g, 0, none⟩) n c) xs) {i : Nat} {x : α} (hx : xs[i]? = some x) : At w ⟨g, i * k, none⟩ (enc x) := by
  have hl := h.len
  subst hl
  obtain ⟨cells, hE, h⟩ := h
  refine At.of_add fun j u hu => ?_
  have := World.ownsRow.cells h (g := g) rfl _ _ (hE.2 i x hx j u hu)
  have e : ((⟨g, i * k, none⟩ : Addr).add j) = (⟨g, 0, none⟩ : Addr).add (i * k + j) := by
    unfold Addr.add
    by_cases h1 : j = 0
    · subst h1
      by_cases h2 : i * k = 0
      · simp [h2]
      · simp [h2]
    · by_cases h2 : i * k = 0
      · simp [h1, h2]
      · rw [if_neg h1, if_neg (by omega)]
        simp
  rw [e]
  exact this
/-- A store elsewhere. -/
theorem Own.other (h : Own enc k e w base (.slice (some ⟨g, 0, none⟩) n c) xs) {b : Nat} (hb : b ≠ g) (i : Nat) (x : Value) : Own enc k e (w.setCell ⟨b, i, none⟩ x) base (.slice (some ⟨g, 0, none⟩) n c) xs :=
  h.grown (row := some b) ⟨rfl, rfl, rfl, by simp [World.setCell], fun j _ hne => Below.heap_setCell _ _ _ _ (fun e => hne (by rw [e]))⟩ (.inr (fun e => hb (Option.some.inj e).symm))
theorem Own.free (h : Own enc k e w base (.slice (some ⟨g, 0, none⟩) n c) xs) (j : Nat) : w.frozen? ⟨g, j, none⟩ = false := by
  have hl := h.len
  subst hl
  obtain ⟨cells, hE, h⟩ := h
  exact World.ownsRow.frozenAt h j
theorem Own.lt' (h : Own enc k e w base (.slice (some ⟨g, 0, none⟩) n c) xs) : base ≤ g ∧ g < w.heap.size := h.lt rfl
/-- What vs written from p on leaves. -/
def putAll (w : World) (g p : Nat) : List Value → World
  | [] => w
  | v :: vs => putAll (w.setCell ⟨g, p, none⟩ v) g (p + 1) vs
theorem putAll_row : ∀ (vs : List Value) (w : World) (p : Nat) (cells : List Value), w.ownsRow base e k (.slice (some ⟨g, 0, none⟩) n c) n cells →
    (putAll w g p vs).ownsRow base e k (.slice (some ⟨g, 0, none⟩) n c) n (setAll cells p vs) ∧ w.grownBy (putAll w g p vs) (some g)
  | [], w, p, cells, h => ⟨h, World.grownBy.refl w _⟩
  | v :: vs, w, p, cells, h => by
    obtain ⟨h1, h2⟩ := World.ownsRow.stored h p v
    obtain ⟨h3, h4⟩ := putAll_row vs _ (p + 1) _ h1
    exact ⟨h3, ⟨h4.os.trans h2.os, h4.tape.trans h2.tape, h4.output.trans h2.output, Nat.le_trans h2.size h4.size, fun i hi hne => (h4.block i (Nat.lt_of_lt_of_le hi h2.size) hne).trans (h2.block i hi hne)⟩⟩
theorem Own.put (hk : ∀ x, (enc x).length = k) (h : Own enc k e w base (.slice (some ⟨g, 0, none⟩) n c) xs) {i : Nat} (hi : i < n) (x : α) :
    Own enc k e (putAll w g (i * k) (enc x)) base (.slice (some ⟨g, 0, none⟩) n c) (xs.set i x) ∧ w.grownBy (putAll w g (i * k) (enc x)) (some g) := by
  have hl := h.len
  subst hl
  obtain ⟨cells, hE, h⟩ := h
  obtain ⟨h1, h2⟩ := putAll_row (enc x) w (i * k) cells h
  exact ⟨⟨_, hE.set hk hi x, by rw [List.length_set]; exact h1⟩, h2⟩
end
theorem Own.store {α : Type} {enc : α → List Value} {k : Nat} {e : TypeId} {w : World} {base : Nat} {v : Value} {xs : List α} (h : Own enc k e w base v xs) {b : Nat} (hb : b < base) (i : Nat) (x : Value) : Own enc k e (w.setCell ⟨b, i, none⟩ x) base v xs :=
  h.grown (row := some b) ⟨rfl, rfl, rfl, by simp [World.setCell], fun j _ hne => Below.heap_setCell _ _ _ _ (fun e => hne (by rw [e]))⟩ (.inr (fun e => by have := (h.lt e).1; omega))
theorem frz_below {w w' : World} {p : Addr} (h : w.frozen? p = false) (hp : p.block < w.heap.size) (hb : Below w.heap.size w w') : w'.frozen? p = false := (hb.frozen hp).trans h
theorem Own.notin {α : Type} {enc : α → List Value} {k : Nat} {e : TypeId} {w : World} {base : Nat} {v : Value} {xs : List α} (h : Own enc k e w base v xs) {b : Nat} (hb : b < base) : v.ownBlock ≠ some b := fun e => by
  have := (h.lt e).1
  omega
theorem below_of_grown {B : Nat} {a w w' : World} {g : Nat} (hb : Below B a w) (hg : w.grownBy w' (some g)) (hB : B ≤ g) (hw : g < w.heap.size) : Below B a w' :=
  hb.grown hg (by omega) (fun k hk => by cases hk; exact hB)
theorem below_own {B : Nat} {a w w' : World} {row : Option Nat} (hb : Below B a w) (hg : w.grownBy w' row) (hB : ∀ g, row = some g → B ≤ g) (hw : B ≤ w.heap.size := by omega) : Below B a w' := hb.grown hg hw hB
theorem Own.apart {α β : Type} {enc : α → List Value} {enc' : β → List Value} {k k' : Nat} {e e' : TypeId} {w w' : World} {base base' : Nat} {v v' : Value} {xs : List α} {ys : List β} (h : Own enc k e w base v xs) (h' : Own enc' k' e' w' base' v' ys) (hb : w.heap.size ≤ base') : v.ownBlock = none ∨ v.ownBlock ≠ v'.ownBlock := by
  cases hv : v.ownBlock with
  | none => exact .inl rfl
  | some g =>
    refine .inr fun e => ?_
    · have h1 := (h.lt hv).2
      have h2 := (h'.lt e.symm).1
      omega
/-- Rows of two types lie apart. -/
theorem Own.apart_ty {α β : Type} {enc : α → List Value} {enc' : β → List Value} {k k' : Nat} {e e' : TypeId} {w : World} {base base' : Nat} {v v' : Value} {xs : List α} {ys : List β} (h : Own enc k e w base v xs) (h' : Own enc' k' e' w base' v' ys) (he : e ≠ e') : v.ownBlock = none ∨ v.ownBlock ≠ v'.ownBlock := by
  obtain ⟨c1, _, _, hv⟩ := h
  obtain ⟨c2, _, _, hv'⟩ := h'
  rcases hv with ⟨rfl, _⟩ | ⟨g, cap, cur, rfl, _, hg, _⟩
  · exact .inl rfl
  · refine .inr fun q => ?_
    rcases hv' with ⟨rfl, _⟩ | ⟨g', cap', cur', rfl, _, hg', _⟩
    · cases q
    · obtain rfl : g = g' := by simpa [Value.ownBlock] using q
      rw [hg] at hg'
      injection hg' with q1
      injection q1 with _ q2 _
      exact he q2
/-- Element j is the mark of k + m * j. -/
def Mkd {α : Type} (mk : Int → α) (m k : Int) (xs : List α) : Prop := ∀ (j : Nat) y, xs[j]? = some y → y = mk (k + m * j)
theorem Mkd.congr {α : Type} {mk : Int → α} {m k : Int} {xs : List α} (h : Mkd mk m k xs) {j : Nat} {y : α} (hy : xs[j]? = some y) {q : Int} (hq : q = k + m * j) : y = mk q := by rw [hq]; exact h j y hy
theorem Own.own_none {α : Type} {enc : α → List Value} {k : Nat} {e : TypeId} {w : World} {base : Nat} {v : Value} {xs : List α} (h : Own enc k e w base v xs) (h0 : xs.length = 0) : v.ownBlock = none ∨ ∃ g c, v = .slice (some ⟨g, 0, none⟩) 0 c := by
  obtain ⟨cells, hE, h⟩ := h
  rcases h.2 with ⟨rfl, hn'⟩ | ⟨g, cap, cur, rfl, _⟩
  · exact .inl rfl
  · exact .inr ⟨g, cap, by rw [h0]⟩
theorem grown_trans' {a b c : World} {row : Option Nat} (h : a.grownBy b row) (k : b.grownBy c row) : a.grownBy c row :=
  ⟨k.os.trans h.os, k.tape.trans h.tape, k.output.trans h.output, Nat.le_trans h.size k.size, fun i hi hne => (k.block i (Nat.lt_of_lt_of_le hi h.size) hne).trans (h.block i hi hne)⟩
theorem grown_below {a b c : World} {row : Option Nat} (h : a.grownBy b row) (k : Below b.heap.size b c) : a.grownBy c row :=
  ⟨k.os.trans h.os, k.tape.trans h.tape, k.output.trans h.output, Nat.le_trans h.size k.size, fun i hi hne => (k.block i (Nat.lt_of_lt_of_le hi h.size)).trans (h.block i hi hne)⟩
/-- A block laid with all its elements. -/
theorem Own.lit {α : Type} {enc : α → List Value} {k : Nat} {e : TypeId} {base : Nat} (w : World) (cs : Array Value) (xs : List α) (n : Nat) (hb : base ≤ w.heap.size) (hn : xs.length = n) (hm : n ≤ maxLen) (hE : Enc enc k xs cs.toList) :
    Own enc k e (w.alloc (.cells cs e)) base (.slice (some ⟨w.heap.size, 0, none⟩) n n) xs := by
  subst hn
  exact ⟨_, hE, World.ownsRow_lit w cs xs.length hb hm (by have := hE.1; simpa using this)⟩
/-- Elements of one cell each, laid. -/
theorem Enc.map {α : Type} (f : α → Value) : ∀ xs : List α, Enc (fun x => [f x]) 1 xs (xs.map f)
  | xs => by
    refine ⟨by simp, fun i x hx j u hu => ?_⟩
    cases j with
    | zero =>
      obtain rfl : f x = u := by simpa using hu
      simp [hx]
    | succ j => simp at hu
/-! ### make -/
theorem made_get (z : Array Value) (n j : Nat) (hj : j < n) (hz : 0 < z.size) : (madeCells z n).toList[j]? = z.toList[j % z.size]? := by
  have h2 : j % z.size < z.size := Nat.mod_lt _ hz
  simp [madeCells, hj, h2]
theorem Enc.made {α : Type} {enc : α → List Value} {k : Nat} (z : Value) (zx : α) (n : Nat) (hz : z.cells.toList = enc zx) (hk : (enc zx).length = k) (h0 : 0 < k) : Enc enc k (List.replicate n zx) (madeCells z.cells (n * k)).toList := by
  have hs : z.cells.size = k := by rw [← Array.length_toList, hz, hk]
  refine ⟨by rw [Array.length_toList, size_madeCells, List.length_replicate], fun i x hx j u hu => ?_⟩
  rw [List.getElem?_replicate] at hx
  split at hx
  · rename_i hi
    obtain rfl := Option.some.inj hx
    have hj : j < k := by rw [← hk]; exact (List.getElem?_eq_some_iff.1 hu).1
    rw [made_get _ _ _ (by have := mul_lt (r := 0) hi hj; omega) (by omega), hs, Nat.mul_comm, Nat.mul_add_mod, Nat.mod_eq_of_lt hj, hz]
    exact hu
  · cases hx
section
variable {P : Program} {ops : Array Oper} {rest : List Oper} {o : Oper} {a : Act} {Q : Exit → Act → World → Prop}
/-- make([]T, n), behind at_make. -/
theorem wp_make {α : Type} (enc : α → List Value) (k : Nat) (w : World) (base : Nat) (hgd : o.guard = none) (l c : Operand) (t e : TypeId) (ho : o.op = .makeSlice t l c) (ht : P.underlying t = some (.slice e))
    (z : Value) (bytes : Nat) (hinfo : (P.info? e).map (fun i => (i.zero, i.size, i.bytes)) = some (some z, k, bytes)) (zx : α) (hz : z.cells.toList = enc zx) (hk : (enc zx).length = k) (h0 : 0 < k)
    (n : Nat) (hl : a.eval l = .int .i64 (n : Int)) (hc : a.eval c = .int .i64 (n : Int)) (hn : n * bytes ≤ 140737488355328) (hm : n ≤ maxLen) (hbase : base ≤ w.heap.size)
    (hK : ∀ g w', Own enc k e w' base (.slice (some ⟨g, 0, none⟩) n n) (List.replicate n zx) → Below w.heap.size w w' → wpList P ops Q rest (a.put o.dst (.slice (some ⟨g, 0, none⟩) n n)) w') : wpList P ops Q (o :: rest) a w := by
  obtain ⟨i, hi, hz1, hz2, hz3⟩ := info_parts hinfo
  refine wpList_make_full w hgd l c t ho base e i z k ht hi hz1 hz2 .i64 .i64 (n : Int) (n : Int) n hl hc rfl rfl (by rw [hz3, Nat.mul_comm]; omega) hm hbase fun w' hw' hg => ?_
  exact hK _ _ ⟨_, Enc.made z zx n hz hk h0, by rw [List.length_replicate]; exact hw'⟩ ⟨hg.os, hg.tape, hg.output, hg.size, fun k hk => hg.block k hk (by simp)⟩
/-- append(v, y), the element laid just ahead in a block of its own. -/
theorem wp_append1 {α : Type} (enc : α → List Value) (k : Nat) (w : World) (base : Nat) (hgd : o.guard = none) (s x : Operand) (t e tb : TypeId) (ho : o.op = .call { callee := .builtin .append, args := #[s, x], argTypes := #[t, t] }) (ht : P.underlying t = some (.slice e))
    (z : Value) (bytes : Nat) (hinfo : (P.info? e).map (fun i => (i.zero, i.size, i.bytes)) = some (some z, k, bytes)) (zx : α) (hz : z.cells.toList = enc zx) (hk : ∀ y, (enc y).length = k) (h0 : 0 < k) (h1 : ∀ y, ∀ u ∈ enc y, u.oneCell' = true)
    (v : Value) (xs : List α) (hs : a.eval s = v) (hown : Own enc k e w base v xs) (y : α) (cs : Array Value) (hcs : cs.toList = enc y) (hx : a.eval x = .slice (some ⟨w.heap.size, 0, none⟩) 1 1)
    (hn : (xs.length + 1) * bytes ≤ 140737488355328) (hm : xs.length + 1 ≤ maxLen) (hbase : base ≤ w.heap.size)
    (hK : ∀ v' w', Own enc k e w' base v' (xs ++ [y]) → w.grownBy w' v.ownBlock → wpList P ops Q rest (a.put o.dst v') w') : wpList P ops Q (o :: rest) a (w.alloc (.cells cs tb)) := by
  obtain ⟨i, hi, hz1, hz2, hz3⟩ := info_parts hinfo
  obtain ⟨cells, hE, hr⟩ := hown.alloc (.cells cs tb)
  refine wpList_append_own _ hgd s x t ho base e i z k bytes ht hi hz1 hz2 hz3 (by rw [← Array.length_toList, hz, hk]) h0 v xs.length cells hs hr ⟨w.heap.size, 0, none⟩ 1 1 (enc y) hx (by rw [hk, Nat.one_mul]) ?_ (h1 y) hm hn (by simp; omega) fun v' w' h2 h3 _ => ?_
  · intro j u hj
    have e : ((⟨w.heap.size, 0, none⟩ : Addr).add j) = ⟨w.heap.size, j, none⟩ := by
      unfold Addr.add
      split <;> simp_all
    rw [e, blk_new w cs tb j, ← Array.getElem?_toList, hcs, hj]
  · exact hK v' w' ⟨_, hE.snoc y (hk y), by rw [List.length_append, List.length_singleton]; exact h2⟩ (grown_trans' (World.grownBy_alloc _ _ _) h3)
/-- make([]T, m) with literal operands, behind at_make. -/
theorem wp_makeL {α : Type} (enc : α → List Value) (k : Nat) (w : World) (base : Nat) (hgd : o.guard = none) (m : Int) (t e : TypeId) (ho : o.op = .makeSlice t (.const (.int .i64 m)) (.const (.int .i64 m))) (ht : P.underlying t = some (.slice e))
    (z : Value) (bytes : Nat) (hinfo : (P.info? e).map (fun i => (i.zero, i.size, i.bytes)) = some (some z, k, bytes)) (zx : α) (hz : z.cells.toList = enc zx) (hk : (enc zx).length = k) (h0 : 0 < k)
    (n : Nat) (hmn : m = (n : Int)) (hn : n * bytes ≤ 140737488355328) (hm : n ≤ maxLen) (hbase : base ≤ w.heap.size)
    (hK : ∀ g w', Own enc k e w' base (.slice (some ⟨g, 0, none⟩) n n) (List.replicate n zx) → Below w.heap.size w w' → wpList P ops Q rest (a.put o.dst (.slice (some ⟨g, 0, none⟩) n n)) w') : wpList P ops Q (o :: rest) a w := by
  subst hmn
  exact wp_make enc k w base hgd _ _ t e ho ht z bytes hinfo zx hz hk h0 n rfl rfl hn hm hbase hK
end
end Go.Proofs.Ytjnmhpldabbeiaa.M
end
section
namespace Go.Proofs.Ytjnmhpldabbeiaa.Q
open Go.RowKit Go.Proofs.YtjnmhpldabbeiaaW.PrintWords Go.Proofs.YtjnmhpldabbeiaaW.PrintLast Go.Proofs.YtjnmhpldabbeiaaW.PrintMore
attribute [local go_sem] max2_int min2_int max_two min_two max_three min_three max_four min_four   -- for this text's walks alone
set_option linter.unusedVariables false
set_option linter.unusedSimpArgs false
set_option maxHeartbeats 8000000 in
set_option maxRecDepth 100000 in
theorem spec_l5Form.callsAt (k : Nat) (p : Addr) (s0_0 : Int) (s0_1 : Int) (s0_2 : ByteArray) (s0_3 : Int) (s0_4 : Int) (r1 : Bool) (r2 : Int) (r3 : Int) (r4 : ByteArray) (r5 : Int) (r6 : Int) (w : World) (hI : M.At w p [.int .i64 s0_0, .int .i64 s0_1, .string s0_2, .int .i64 s0_3, .int .i64 s0_4]) (h : spec_l5Form.f k s0_0 s0_1 s0_2 s0_3 s0_4 = some (r1, r2, r3, r4, r5, r6)) :
    Calls Try.prog 142 #[.pointer (some p)] w fun e w' => e = .returned (.bool r1) ∧ Drawn0 w w' := by
  have HI0 := Aside0.mk hI
  have HK := Aside0.mk (Drawn0.refl w)
  clear hI
  have H : ((spec_l1In.f s0_0 1 12).bind fun t101 => (if t101 = true then (if s0_0 = 2 then ((spec_l5Has.f s0_0).bind fun t102 => (if t102 = true then (spec_l5Form.j0 k false s0_0 s0_1 s0_2 s0_3 s0_4) else (spec_l5Form.j0 k (s0_2.toList != ([] : List UInt8)) s0_0 s0_1 s0_2 s0_3 s0_4))) else (if s0_1 = 0 then ((spec_l5Has.f s0_0).bind fun t103 => (if t103 = true then (spec_l5Form.j0 k false s0_0 s0_1 s0_2 s0_3 s0_4) else (spec_l5Form.j0 k (s0_2.toList != ([] : List UInt8)) s0_0 s0_1 s0_2 s0_3 s0_4))) else (spec_l5Form.j0 k true s0_0 s0_1 s0_2 s0_3 s0_4))) else (some (false, s0_0, s0_1, s0_2, s0_3, s0_4)))) = some (r1, r2, r3, r4, r5, r6) := h
  clear h
  replace H := Option.bind_eq_some_iff.mp H
  obtain ⟨t101, A20, H⟩ := H
  replace H : (if t101 = true then (if s0_0 = 2 then ((spec_l5Has.f s0_0).bind fun t102 => (if t102 = true then (spec_l5Form.j0 k false s0_0 s0_1 s0_2 s0_3 s0_4) else (spec_l5Form.j0 k (s0_2.toList != ([] : List UInt8)) s0_0 s0_1 s0_2 s0_3 s0_4))) else (if s0_1 = 0 then ((spec_l5Has.f s0_0).bind fun t103 => (if t103 = true then (spec_l5Form.j0 k false s0_0 s0_1 s0_2 s0_3 s0_4) else (spec_l5Form.j0 k (s0_2.toList != ([] : List UInt8)) s0_0 s0_1 s0_2 s0_3 s0_4))) else (spec_l5Form.j0 k true s0_0 s0_1 s0_2 s0_3 s0_4))) else (some (false, s0_0, s0_1, s0_2, s0_3, s0_4))) = some (r1, r2, r3, r4, r5, r6) := H
  have A2 := Aside0.mk A20
  clear A20
  by_cases c3 : t101 = true
  · subst c3
    have H1 : (if s0_0 = 2 then ((spec_l5Has.f s0_0).bind fun t102 => (if t102 = true then (spec_l5Form.j0 k false s0_0 s0_1 s0_2 s0_3 s0_4) else (spec_l5Form.j0 k (s0_2.toList != ([] : List UInt8)) s0_0 s0_1 s0_2 s0_3 s0_4))) else (if s0_1 = 0 then ((spec_l5Has.f s0_0).bind fun t103 => (if t103 = true then (spec_l5Form.j0 k false s0_0 s0_1 s0_2 s0_3 s0_4) else (spec_l5Form.j0 k (s0_2.toList != ([] : List UInt8)) s0_0 s0_1 s0_2 s0_3 s0_4))) else (spec_l5Form.j0 k true s0_0 s0_1 s0_2 s0_3 s0_4))) = some (r1, r2, r3, r4, r5, r6) := by rw [if_pos rfl] at H; exact H
    clear H
    have H := H1
    clear H1
    have HC4 := Aside0.mk H
    clear H
    obtain ⟨hcz5_0, hcz5_1, hcz5_2, hcz5_3, hcz5_4⟩ := HI0.out.five
    go_enter Try.func142, Try.ntmps142
    go_upto_region 3 with (first | ((with_reducible refine gate_callee (f := 78) rfl ?_); refine goesL_ (some 7) rfl rfl Try.func78 (by kernel_rfl) rfl #[.int .i64 s0_0, .int .i64 1, .int .i64 12] rfl (by (try simp only [List.map_toArray, List.map_cons, List.map_nil]); first | done | rfl | (simp only [List.length_drop, List.length_take]; rfl)) ?_; (with_reducible refine (spec_l1In.calls s0_0 1 12 true _ A2.out).mono ?_); rintro e w' ⟨rfl, ⟨nd, rfl⟩⟩; refine ⟨_, rfl, ?_⟩) | (go_at_call 78; (with_reducible refine (spec_l1In.calls s0_0 1 12 true _ A2.out).mono ?_); rintro e w' ⟨rfl, ⟨nd, rfl⟩⟩))
    (try simp only [Act.put, List.setIfInBounds_toArray, List.set_cons_zero, List.set_cons_succ])
    go_cut [35] (fun v35 wc => ∃ (kq : Nat) (x35_3 : Bool), v35 = .bool x35_3 ∧ Aside0 (spec_l5Form.j0 kq x35_3 s0_0 s0_1 s0_2 s0_3 s0_4 = some (r1, r2, r3, r4, r5, r6)) ∧ Aside0 (kq ≤ k) ∧ Aside0 (M.At wc p [.int .i64 s0_0, .int .i64 s0_1, .string s0_2, .int .i64 s0_3, .int .i64 s0_4]) ∧ Aside0 (Drawn0 w wc))
    case first =>
      have H := HC4.out
      clear HC4
      by_cases c6 : s0_0 = 2
      · rw [if_pos c6] at H
        have c6b0 : (s0_0 == 2) = true := beq_iff_eq.mpr c6
        have c6b1 : (s0_0 != 2) = false := bne_eq_false_iff_eq.mpr c6
        clear c6
        (first | rw [c6b0] | (simp only [i64_w, i32_w]; rw [c6b0]) | skip)
        replace H := Option.bind_eq_some_iff.mp H
        obtain ⟨t102, A70, H⟩ := H
        replace H : (if t102 = true then (spec_l5Form.j0 k false s0_0 s0_1 s0_2 s0_3 s0_4) else (spec_l5Form.j0 k (s0_2.toList != ([] : List UInt8)) s0_0 s0_1 s0_2 s0_3 s0_4)) = some (r1, r2, r3, r4, r5, r6) := H
        have A7 := Aside0.mk A70
        clear A70
        by_cases c8 : t102 = true
        · subst c8
          have H1 : (spec_l5Form.j0 k false s0_0 s0_1 s0_2 s0_3 s0_4) = some (r1, r2, r3, r4, r5, r6) := by rw [if_pos rfl] at H; exact H
          clear H
          have H := H1
          clear H1
          have H' := Aside0.mk H
          clear H
          obtain ⟨hcz9_0, hcz9_1, hcz9_2, hcz9_3, hcz9_4⟩ := HI0.out.five
          go_wp2_with (first | (go_at_call 135; (with_reducible refine (spec_l5Has.calls s0_0 true _ A7.out).mono ?_); rintro e w' ⟨rfl, ⟨nd, rfl⟩⟩))
          go_meet
          case rel => exact ⟨_, (false), (by first | rfl | (simp; done) | (simp [*]; done) | (simp [spec_l5Form.isE]; done)), H', ⟨by first | omega | exact Nat.le_refl _⟩, ⟨by exact HI0.out⟩, ⟨by repeat (first | exact HK.out | exact Drawn0.refl _ | apply Drawn0.step)⟩⟩
        · replace c8 := Bool.eq_false_iff.mpr c8
          subst c8
          have H1 : (spec_l5Form.j0 k (s0_2.toList != ([] : List UInt8)) s0_0 s0_1 s0_2 s0_3 s0_4) = some (r1, r2, r3, r4, r5, r6) := by rw [if_neg (show ¬ (false = true) by decide)] at H; exact H
          clear H
          have H := H1
          clear H1
          have H' := Aside0.mk H
          clear H
          obtain ⟨hcz10_0, hcz10_1, hcz10_2, hcz10_3, hcz10_4⟩ := HI0.out.five
          go_wp2_with (first | (go_at_call 135; (with_reducible refine (spec_l5Has.calls s0_0 false _ A7.out).mono ?_); rintro e w' ⟨rfl, ⟨nd, rfl⟩⟩))
          go_meet
          case rel => exact ⟨_, ((s0_2.toList != ([] : List UInt8))), (by first | rfl | (simp; done) | (simp [*]; done) | (simp [spec_l5Form.isE]; done)), H', ⟨by first | omega | exact Nat.le_refl _⟩, ⟨by exact HI0.out⟩, ⟨by repeat (first | exact HK.out | exact Drawn0.refl _ | apply Drawn0.step)⟩⟩
      · rw [if_neg c6] at H
        have c6b0 : (s0_0 == 2) = false := beq_eq_false_iff_ne.mpr c6
        have c6b1 : (s0_0 != 2) = true := bne_iff_ne.mpr c6
        (first | rw [c6b0] | (simp only [i64_w, i32_w]; rw [c6b0]) | skip)
        by_cases c11 : s0_1 = 0
        · rw [if_pos c11] at H
          have c11b0 : (s0_1 == 0) = true := beq_iff_eq.mpr c11
          have c11b1 : (s0_1 != 0) = false := bne_eq_false_iff_eq.mpr c11
          clear c11
          replace H := Option.bind_eq_some_iff.mp H
          obtain ⟨t103, A120, H⟩ := H
          replace H : (if t103 = true then (spec_l5Form.j0 k false s0_0 s0_1 s0_2 s0_3 s0_4) else (spec_l5Form.j0 k (s0_2.toList != ([] : List UInt8)) s0_0 s0_1 s0_2 s0_3 s0_4)) = some (r1, r2, r3, r4, r5, r6) := H
          have A12 := Aside0.mk A120
          clear A120
          by_cases c13 : t103 = true
          · subst c13
            have H1 : (spec_l5Form.j0 k false s0_0 s0_1 s0_2 s0_3 s0_4) = some (r1, r2, r3, r4, r5, r6) := by rw [if_pos rfl] at H; exact H
            clear H
            have H := H1
            clear H1
            have H' := Aside0.mk H
            clear H
            obtain ⟨hcz14_0, hcz14_1, hcz14_2, hcz14_3, hcz14_4⟩ := HI0.out.five
            go_wp2_with (first | (go_at_call 135; (with_reducible refine (spec_l5Has.calls s0_0 true _ A12.out).mono ?_); rintro e w' ⟨rfl, ⟨nd, rfl⟩⟩))
            go_meet
            case rel => exact ⟨_, (false), (by first | rfl | (simp; done) | (simp [*]; done) | (simp [spec_l5Form.isE]; done)), H', ⟨by first | omega | exact Nat.le_refl _⟩, ⟨by exact HI0.out⟩, ⟨by repeat (first | exact HK.out | exact Drawn0.refl _ | apply Drawn0.step)⟩⟩
          · replace c13 := Bool.eq_false_iff.mpr c13
            subst c13
            have H1 : (spec_l5Form.j0 k (s0_2.toList != ([] : List UInt8)) s0_0 s0_1 s0_2 s0_3 s0_4) = some (r1, r2, r3, r4, r5, r6) := by rw [if_neg (show ¬ (false = true) by decide)] at H; exact H
            clear H
            have H := H1
            clear H1
            have H' := Aside0.mk H
            clear H
            obtain ⟨hcz15_0, hcz15_1, hcz15_2, hcz15_3, hcz15_4⟩ := HI0.out.five
            go_wp2_with (first | (go_at_call 135; (with_reducible refine (spec_l5Has.calls s0_0 false _ A12.out).mono ?_); rintro e w' ⟨rfl, ⟨nd, rfl⟩⟩))
            go_meet
            case rel => exact ⟨_, ((s0_2.toList != ([] : List UInt8))), (by first | rfl | (simp; done) | (simp [*]; done) | (simp [spec_l5Form.isE]; done)), H', ⟨by first | omega | exact Nat.le_refl _⟩, ⟨by exact HI0.out⟩, ⟨by repeat (first | exact HK.out | exact Drawn0.refl _ | apply Drawn0.step)⟩⟩
        · rw [if_neg c11] at H
          have c11b0 : (s0_1 == 0) = false := beq_eq_false_iff_ne.mpr c11
          have c11b1 : (s0_1 != 0) = true := bne_iff_ne.mpr c11
          have H' := Aside0.mk H
          clear H
          obtain ⟨hcz16_0, hcz16_1, hcz16_2, hcz16_3, hcz16_4⟩ := HI0.out.five
          go_wp2
          go_meet
          case rel => exact ⟨_, (true), (by first | rfl | (simp; done) | (simp [*]; done) | (simp [spec_l5Form.isE]; done)), H', ⟨by first | omega | exact Nat.le_refl _⟩, ⟨by exact HI0.out⟩, ⟨by repeat (first | exact HK.out | exact Drawn0.refl _ | apply Drawn0.step)⟩⟩
    case rest =>
      clear HC4
      try clear c1
      try clear p2
      try clear c3
      try clear c6
      try clear c6b0
      try clear c6b1
      try clear c7
      try clear c8
      try clear c11
      try clear c11b0
      try clear c11b1
      try clear c13
      try clear c14
      try clear hcz10_0
      try clear hcz10_1
      try clear hcz10_2
      try clear hcz10_3
      try clear hcz10_4
      try clear hcz14_0
      try clear hcz14_1
      try clear hcz14_2
      try clear hcz14_3
      try clear hcz14_4
      try clear hcz15_0
      try clear hcz15_1
      try clear hcz15_2
      try clear hcz15_3
      try clear hcz15_4
      try clear hcz16_0
      try clear hcz16_1
      try clear hcz16_2
      try clear hcz16_3
      try clear hcz16_4
      try clear hcz5_0
      try clear hcz5_1
      try clear hcz5_2
      try clear hcz5_3
      try clear hcz5_4
      try clear hcz9_0
      try clear hcz9_1
      try clear hcz9_2
      try clear hcz9_3
      try clear hcz9_4
      obtain ⟨kq, x35_3, rfl, HA, HJ3, HI0, HK⟩ := hcut
      cases kq with
      | zero => exact absurd HA.out (by simp [spec_l5Form.j0])
      | succ kj3 =>
        have H := HA.out
        clear HA
        simp only [spec_l5Form.j0] at H
        by_cases c17 : x35_3 = true
        · subst c17
          have H1 : (some (false, s0_0, s0_1, s0_2, s0_3, s0_4)) = some (r1, r2, r3, r4, r5, r6) := by rw [if_pos rfl] at H; exact H
          clear H
          have H := H1
          clear H1
          simp only [Option.some.injEq, Prod.mk.injEq] at H
          obtain ⟨rfl, rfl, rfl, rfl, rfl, rfl⟩ := H
          go_wp2
          go_ret
          exact ⟨by first | rfl | (simp [errW_none, errW_some] <;> rfl) | (simp [*, errW_none, errW_some] <;> rfl), by repeat (first | exact HK.out | exact Drawn0.refl _ | apply Drawn0.step)⟩
        · replace c17 := Bool.eq_false_iff.mpr c17
          subst c17
          have H1 : ((spec_l5Two.f s0_0).bind fun t104 => (if t104 = true then (some (true, s0_0, s0_1, s0_2, s0_3, s0_4)) else (if s0_4 = 0 then ((spec_l5One.f s0_0).bind fun t105 => (if t105 = true then (some (true, s0_0, s0_1, s0_2, s0_3, s0_4)) else (some ((s0_3 == 0), s0_0, s0_1, s0_2, s0_3, s0_4)))) else (some (false, s0_0, s0_1, s0_2, s0_3, s0_4))))) = some (r1, r2, r3, r4, r5, r6) := by rw [if_neg (show ¬ (false = true) by decide)] at H; exact H
          clear H
          have H := H1
          clear H1
          replace H := Option.bind_eq_some_iff.mp H
          obtain ⟨t104, A180, H⟩ := H
          replace H : (if t104 = true then (some (true, s0_0, s0_1, s0_2, s0_3, s0_4)) else (if s0_4 = 0 then ((spec_l5One.f s0_0).bind fun t105 => (if t105 = true then (some (true, s0_0, s0_1, s0_2, s0_3, s0_4)) else (some ((s0_3 == 0), s0_0, s0_1, s0_2, s0_3, s0_4)))) else (some (false, s0_0, s0_1, s0_2, s0_3, s0_4)))) = some (r1, r2, r3, r4, r5, r6) := H
          have A18 := Aside0.mk A180
          clear A180
          by_cases c19 : t104 = true
          · subst c19
            have H1 : (some (true, s0_0, s0_1, s0_2, s0_3, s0_4)) = some (r1, r2, r3, r4, r5, r6) := by rw [if_pos rfl] at H; exact H
            clear H
            have H := H1
            clear H1
            simp only [Option.some.injEq, Prod.mk.injEq] at H
            obtain ⟨rfl, rfl, rfl, rfl, rfl, rfl⟩ := H
            obtain ⟨hcz20_0, hcz20_1, hcz20_2, hcz20_3, hcz20_4⟩ := HI0.out.five
            go_wp2_with (first | ((with_reducible refine gate_callee (f := 182) rfl ?_); refine goesL_ (some 40) rfl rfl Try.func182 (by kernel_rfl) rfl #[.int .i64 s0_0] rfl (by (try simp only [List.map_toArray, List.map_cons, List.map_nil]); first | done | rfl | (simp only [List.length_drop, List.length_take]; rfl)) ?_; (with_reducible refine (spec_l5Two.calls s0_0 true _ A18.out).mono ?_); rintro e w' ⟨rfl, ⟨nd, rfl⟩⟩; refine ⟨_, rfl, ?_⟩) | (go_at_call 182; (with_reducible refine (spec_l5Two.calls s0_0 true _ A18.out).mono ?_); rintro e w' ⟨rfl, ⟨nd, rfl⟩⟩))
            go_ret
            exact ⟨by first | rfl | (simp [errW_none, errW_some] <;> rfl) | (simp [*, errW_none, errW_some] <;> rfl), by repeat (first | exact HK.out | exact Drawn0.refl _ | apply Drawn0.step)⟩
          · replace c19 := Bool.eq_false_iff.mpr c19
            subst c19
            have H1 : (if s0_4 = 0 then ((spec_l5One.f s0_0).bind fun t105 => (if t105 = true then (some (true, s0_0, s0_1, s0_2, s0_3, s0_4)) else (some ((s0_3 == 0), s0_0, s0_1, s0_2, s0_3, s0_4)))) else (some (false, s0_0, s0_1, s0_2, s0_3, s0_4))) = some (r1, r2, r3, r4, r5, r6) := by rw [if_neg (show ¬ (false = true) by decide)] at H; exact H
            clear H
            have H := H1
            clear H1
            by_cases c21 : s0_4 = 0
            · rw [if_pos c21] at H
              have c21b0 : (s0_4 == 0) = true := beq_iff_eq.mpr c21
              have c21b1 : (s0_4 != 0) = false := bne_eq_false_iff_eq.mpr c21
              clear c21
              replace H := Option.bind_eq_some_iff.mp H
              obtain ⟨t105, A220, H⟩ := H
              replace H : (if t105 = true then (some (true, s0_0, s0_1, s0_2, s0_3, s0_4)) else (some ((s0_3 == 0), s0_0, s0_1, s0_2, s0_3, s0_4))) = some (r1, r2, r3, r4, r5, r6) := H
              have A22 := Aside0.mk A220
              clear A220
              by_cases c23 : t105 = true
              · subst c23
                have H1 : (some (true, s0_0, s0_1, s0_2, s0_3, s0_4)) = some (r1, r2, r3, r4, r5, r6) := by rw [if_pos rfl] at H; exact H
                clear H
                have H := H1
                clear H1
                simp only [Option.some.injEq, Prod.mk.injEq] at H
                obtain ⟨rfl, rfl, rfl, rfl, rfl, rfl⟩ := H
                obtain ⟨hcz24_0, hcz24_1, hcz24_2, hcz24_3, hcz24_4⟩ := HI0.out.five
                go_wp2_with (first | ((with_reducible refine gate_callee (f := 182) rfl ?_); refine goesL_ (some 40) rfl rfl Try.func182 (by kernel_rfl) rfl #[.int .i64 s0_0] rfl (by (try simp only [List.map_toArray, List.map_cons, List.map_nil]); first | done | rfl | (simp only [List.length_drop, List.length_take]; rfl)) ?_; (with_reducible refine (spec_l5Two.calls s0_0 false _ A18.out).mono ?_); rintro e w' ⟨rfl, ⟨nd, rfl⟩⟩; refine ⟨_, rfl, ?_⟩) | (go_at_call 182; (with_reducible refine (spec_l5Two.calls s0_0 false _ A18.out).mono ?_); rintro e w' ⟨rfl, ⟨nd, rfl⟩⟩) | (go_at_call 183; (with_reducible refine (spec_l5One.calls s0_0 true _ A22.out).mono ?_); rintro e w' ⟨rfl, ⟨nd, rfl⟩⟩))
                go_ret
                exact ⟨by first | rfl | (simp [errW_none, errW_some] <;> rfl) | (simp [*, errW_none, errW_some] <;> rfl), by repeat (first | exact HK.out | exact Drawn0.refl _ | apply Drawn0.step)⟩
              · replace c23 := Bool.eq_false_iff.mpr c23
                subst c23
                have H1 : (some ((s0_3 == 0), s0_0, s0_1, s0_2, s0_3, s0_4)) = some (r1, r2, r3, r4, r5, r6) := by rw [if_neg (show ¬ (false = true) by decide)] at H; exact H
                clear H
                have H := H1
                clear H1
                simp only [Option.some.injEq, Prod.mk.injEq] at H
                obtain ⟨rfl, rfl, rfl, rfl, rfl, rfl⟩ := H
                obtain ⟨hcz25_0, hcz25_1, hcz25_2, hcz25_3, hcz25_4⟩ := HI0.out.five
                go_wp2_with (first | ((with_reducible refine gate_callee (f := 182) rfl ?_); refine goesL_ (some 40) rfl rfl Try.func182 (by kernel_rfl) rfl #[.int .i64 s0_0] rfl (by (try simp only [List.map_toArray, List.map_cons, List.map_nil]); first | done | rfl | (simp only [List.length_drop, List.length_take]; rfl)) ?_; (with_reducible refine (spec_l5Two.calls s0_0 false _ A18.out).mono ?_); rintro e w' ⟨rfl, ⟨nd, rfl⟩⟩; refine ⟨_, rfl, ?_⟩) | (go_at_call 182; (with_reducible refine (spec_l5Two.calls s0_0 false _ A18.out).mono ?_); rintro e w' ⟨rfl, ⟨nd, rfl⟩⟩) | (go_at_call 183; (with_reducible refine (spec_l5One.calls s0_0 false _ A22.out).mono ?_); rintro e w' ⟨rfl, ⟨nd, rfl⟩⟩))
                go_ret
                exact ⟨by first | rfl | (simp [errW_none, errW_some] <;> rfl) | (simp [*, errW_none, errW_some] <;> rfl), by repeat (first | exact HK.out | exact Drawn0.refl _ | apply Drawn0.step)⟩
            · rw [if_neg c21] at H
              have c21b0 : (s0_4 == 0) = false := beq_eq_false_iff_ne.mpr c21
              have c21b1 : (s0_4 != 0) = true := bne_iff_ne.mpr c21
              simp only [Option.some.injEq, Prod.mk.injEq] at H
              obtain ⟨rfl, rfl, rfl, rfl, rfl, rfl⟩ := H
              obtain ⟨hcz26_0, hcz26_1, hcz26_2, hcz26_3, hcz26_4⟩ := HI0.out.five
              go_wp2_with (first | ((with_reducible refine gate_callee (f := 182) rfl ?_); refine goesL_ (some 40) rfl rfl Try.func182 (by kernel_rfl) rfl #[.int .i64 s0_0] rfl (by (try simp only [List.map_toArray, List.map_cons, List.map_nil]); first | done | rfl | (simp only [List.length_drop, List.length_take]; rfl)) ?_; (with_reducible refine (spec_l5Two.calls s0_0 false _ A18.out).mono ?_); rintro e w' ⟨rfl, ⟨nd, rfl⟩⟩; refine ⟨_, rfl, ?_⟩) | (go_at_call 182; (with_reducible refine (spec_l5Two.calls s0_0 false _ A18.out).mono ?_); rintro e w' ⟨rfl, ⟨nd, rfl⟩⟩))
              go_ret
              exact ⟨by first | rfl | (simp [errW_none, errW_some] <;> rfl) | (simp [*, errW_none, errW_some] <;> rfl), by repeat (first | exact HK.out | exact Drawn0.refl _ | apply Drawn0.step)⟩
  · replace c3 := Bool.eq_false_iff.mpr c3
    subst c3
    have H1 : (some (false, s0_0, s0_1, s0_2, s0_3, s0_4)) = some (r1, r2, r3, r4, r5, r6) := by rw [if_neg (show ¬ (false = true) by decide)] at H; exact H
    clear H
    have H := H1
    clear H1
    simp only [Option.some.injEq, Prod.mk.injEq] at H
    obtain ⟨rfl, rfl, rfl, rfl, rfl, rfl⟩ := H
    obtain ⟨hcz27_0, hcz27_1, hcz27_2, hcz27_3, hcz27_4⟩ := HI0.out.five
    go_enter Try.func142, Try.ntmps142
    go_wp2_with (first | ((with_reducible refine gate_callee (f := 78) rfl ?_); refine goesL_ (some 7) rfl rfl Try.func78 (by kernel_rfl) rfl #[.int .i64 s0_0, .int .i64 1, .int .i64 12] rfl (by (try simp only [List.map_toArray, List.map_cons, List.map_nil]); first | done | rfl | (simp only [List.length_drop, List.length_take]; rfl)) ?_; (with_reducible refine (spec_l1In.calls s0_0 1 12 false _ A2.out).mono ?_); rintro e w' ⟨rfl, ⟨nd, rfl⟩⟩; refine ⟨_, rfl, ?_⟩) | (go_at_call 78; (with_reducible refine (spec_l1In.calls s0_0 1 12 false _ A2.out).mono ?_); rintro e w' ⟨rfl, ⟨nd, rfl⟩⟩))
    go_ret
    exact ⟨by first | rfl | (simp [errW_none, errW_some] <;> rfl) | (simp [*, errW_none, errW_some] <;> rfl), by repeat (first | exact HK.out | exact Drawn0.refl _ | apply Drawn0.step)⟩
end Go.Proofs.Ytjnmhpldabbeiaa.Q
end
section
namespace Go.Proofs.Ytjnmhpldabbeiaa.Q
open Go.RowKit Go.Proofs.YtjnmhpldabbeiaaW.PrintWords Go.Proofs.YtjnmhpldabbeiaaW.PrintLast Go.Proofs.YtjnmhpldabbeiaaW.PrintMore
def inb (a b c : Int) : Bool := decide (b ≤ a ∧ a ≤ c)
def hasB (k : Int) : Bool := k == 4 || k == 5
def twoB (k : Int) : Bool := k == 11 || k == 12
def formB (n : S132) : Bool :=
  inb n.f0 1 12 && (!((n.f0 != 2 && n.f1 != 0) || (!hasB n.f0 && n.f2.toList != [])) && ((twoB n.f0 || n.f4 == 0) && (twoB n.f0 || (inb n.f0 8 10 || n.f3 == 0))))
theorem inb_eq (a b c : Int) : spec_l1In.f a b c = some (inb a b c) := l1In_eq a b c
theorem hasB_eq (k : Int) : spec_l5Has.f k = some (hasB k) := by
  unfold spec_l5Has.f hasB
  by_cases h : k = 4 <;> simp [h]
theorem alone_eq (k : Int) : spec_l7Alone.f k = some (inb k 2 5) := by
  unfold spec_l7Alone.f
  rw [inb_eq]
  rfl
theorem formB_eq (n : S132) : spec_l5Form.f 1 n.f0 n.f1 n.f2 n.f3 n.f4 = some (formB n, n.f0, n.f1, n.f2, n.f3, n.f4) := by
  obtain ⟨k, c, s, l, r⟩ := n
  unfold spec_l5Form.f spec_l5Form.j0 spec_l5One.f spec_l5Two.f formB
  simp only [inb_eq, hasB_eq, Option.bind_some, twoB]
  generalize e1 : inb k 1 12 = b1
  generalize e2 : inb k 8 10 = b2
  generalize e3 : hasB k = b3
  cases b1
  · rfl
  by_cases h2 : k = 2 <;> by_cases h11 : k = 11 <;> by_cases h12 : k = 12 <;> by_cases hc : c = 0 <;> cases b2 <;> cases b3 <;> by_cases hr : r = 0 <;> by_cases hl : l = 0 <;> rcases hs : (s.toList != []) with _ | _ <;> simp_all
def nodeZ (n : S132) : Bool := !(!(n.f0 == 0) || (!(n.f1 == 0) || (!(n.f2.toList == ([] : List UInt8)) || (!(n.f3 == 0) || (!(n.f4 == 0))))))
def form7 (i : S134) : Bool :=
  inb i.f0 1 6 && (!((i.f0 != 2 && i.f3 != 0) || (i.f0 == 6 && i.f2 != 0)) && (if i.f0 = 1 then formB i.f1 && inb i.f1.f0 2 5 else nodeZ i.f1))
def cells7 (i : S134) : List Value := [.int .i64 i.f0, .int .i64 i.f1.f0, .int .i64 i.f1.f1, .string i.f1.f2, .int .i64 i.f1.f3, .int .i64 i.f1.f4, .int .i64 i.f2, .int .i64 i.f3]
end Go.Proofs.Ytjnmhpldabbeiaa.Q
end
section
namespace Go.Proofs.Ytjnmhpldabbeiaa.Q
open Go.RowKit Go.Proofs.YtjnmhpldabbeiaaW.PrintWords Go.Proofs.YtjnmhpldabbeiaaW.PrintLast Go.Proofs.YtjnmhpldabbeiaaW.PrintMore Go.Proofs.Ytjnmhpldabbeiaa.L
def setT (s : ByteArray) : Nat → Int → Bool
  | 0, _ => inb s.size 1 20
  | m + 1, j => if bt s j < 32 then false else if bt s j > 126 then false else if j > 0 ∧ bt s j ≤ bt s (j - 1) then false else setT s m (j + 1)
def setOk (s : ByteArray) : Bool := setT s s.size 0
theorem l5Set_ev (s : ByteArray) (hs : s.size ≤ 1048576) : Ev (fun k => spec_l5Set.f k s) (setOk s) := by
  have H : ∀ (m : Nat) (j : Int), 0 ≤ j → j + m = s.size → Ev (fun k => spec_l5Set.l0 k s j) (setT s m j) := by
    intro m
    induction m with
    | zero =>
      intro j h0 h1
      refine Ev.succ ?_
      simp only [spec_l5Set.l0]
      exact Ev.neg (by omega) (Ev.bind0 (inb_eq _ _ _) (Ev.now _))
    | succ m ih =>
      intro j h0 h1
      have e1 : wrap64 (j + 1) = j + 1 := w64 (by omega) (by omega)
      have e2 : wrap64 (j - 1) = j - 1 := w64 (by omega) (by omega)
      refine Ev.succ ?_
      simp only [spec_l5Set.l0, e1, e2, setT]
      refine Ev.pos (by omega) (Ev.pos h0 ?_)
      by_cases c1 : bt s j < 32
      · exact Ev.pos c1 (Ev.eq (Ev.now _) (by simp [c1]))
      refine Ev.neg c1 ?_
      by_cases c2 : bt s j > 126
      · exact Ev.pos c2 (Ev.eq (Ev.now _) (by simp [c1, c2]))
      refine Ev.neg c2 ?_
      have hr := ih (j + 1) (by omega) (by omega)
      by_cases c3 : j > 0
      · refine Ev.pos c3 (Ev.pos (by omega) (Ev.pos (by omega) ?_))
        by_cases c4 : bt s j ≤ bt s (j - 1)
        · exact Ev.pos c4 (Ev.eq (Ev.now _) (by rw [if_neg c1, if_neg c2, if_pos ⟨c3, c4⟩]))
        · exact Ev.neg c4 (Ev.eq hr (by rw [if_neg c1, if_neg c2, if_neg (fun h => c4 h.2)]))
      · exact Ev.neg c3 (Ev.eq hr (by rw [if_neg c1, if_neg c2, if_neg (fun h => c3 h.1)]))
  exact H s.size 0 (by omega) (by omega)
theorem isSet_ev (s : ByteArray) (hs : s.size ≤ 1048576) : Ev (fun k => impl_isSet.f k s) (setOk s) := by
  have H : ∀ (m : Nat) (j : Int), 0 ≤ j → j + m = s.size → Ev (fun k => impl_isSet.l0 k s (s.size : Int) j) (setT s m j) := by
    intro m
    induction m with
    | zero =>
      intro j h0 h1
      refine Ev.succ ?_
      simp only [impl_isSet.l0]
      exact Ev.neg (by omega) (Ev.bind0 (within_eq _ _ _) (Ev.now _))
    | succ m ih =>
      intro j h0 h1
      have e1 : wrap64 (j + 1) = j + 1 := w64 (by omega) (by omega)
      have e2 : wrap64 (j - 1) = j - 1 := w64 (by omega) (by omega)
      have hb := bt_range s j
      have e3 : wrap64 (bt s j) = bt s j := w64 (by omega) (by omega)
      have hp : impl_isPrinted.f (bt s j) = some (inb (bt s j) 32 126) := by unfold impl_isPrinted.f; rw [within_eq]; rfl
      refine Ev.succ ?_
      simp only [impl_isSet.l0, e1, e2, e3, setT]
      refine Ev.pos (by omega) (Ev.pos h0 (Ev.pos (by omega) (Ev.bind0 hp ?_)))
      have hr := ih (j + 1) (by omega) (by omega)
      by_cases c1 : bt s j < 32
      · exact Ev.neg (by simp [inb]; omega) (Ev.eq (Ev.now _) (by simp [c1]))
      by_cases c2 : bt s j > 126
      · exact Ev.neg (by simp [inb]; omega) (Ev.eq (Ev.now _) (by simp [c1, c2]))
      refine Ev.pos (by simp [inb]; omega) ?_
      by_cases c3 : j > 0
      · refine Ev.pos c3 (Ev.pos (by omega) (Ev.pos (by omega) ?_))
        by_cases c4 : bt s j ≤ bt s (j - 1)
        · exact Ev.pos c4 (Ev.eq (Ev.now _) (by rw [if_neg c1, if_neg c2, if_pos ⟨c3, c4⟩]))
        · exact Ev.neg c4 (Ev.eq hr (by rw [if_neg c1, if_neg c2, if_neg (fun h => c4 h.2)]))
      · exact Ev.neg c3 (Ev.eq hr (by rw [if_neg c1, if_neg c2, if_neg (fun h => c3 h.1)]))
  exact H s.size 0 (by omega) (by omega)
def bad7 (n : Int) (i : S134) : Bool :=
  (i.f0 == 1 && ((i.f1.f0 == 2 && !inb i.f1.f1 32 126) || (hasB i.f1.f0 && !setOk i.f1.f2))) || (!inb i.f2 0 (n - 1) || !inb i.f3 0 (n - 1))
def scan7 (n : Int) : List S134 → Int
  | [] => 0
  | i :: t => if form7 i = true then (if bad7 n i = true then 3 else scan7 n t) else 1
def prog7 (l : List S134) : Int := if inb l.length 1 80 = true then scan7 l.length l else 2
def small7 (l : List S134) : Bool := l.all fun i => decide (i.f1.f2.size ≤ 1048576)
end Go.Proofs.Ytjnmhpldabbeiaa.Q
end
section
namespace Go.Proofs.Ytjnmhpldabbeiaa.Q
open Go.RowKit Go.Proofs.YtjnmhpldabbeiaaW.PrintWords Go.Proofs.YtjnmhpldabbeiaaW.PrintLast Go.Proofs.YtjnmhpldabbeiaaW.PrintMore Go.Proofs.Ytjnmhpldabbeiaa.L
theorem ihas_eq (k : Int) : impl_hasSet.f k = some (hasB k) := by
  unfold impl_hasSet.f hasB
  by_cases h : k = 4 <;> simp [h]
theorem iin_eq (a b c : Int) : impl_within.f a b c = some (inb a b c) := within_eq a b c
theorem ione_eq (k : Int) : impl_isOneKind.f k = some (inb k 8 10) := by unfold impl_isOneKind.f; rw [iin_eq]; rfl
theorem itwo_eq (k : Int) : impl_isTwoKind.f k = some (twoB k) := by
  unfold impl_isTwoKind.f
  rw [iin_eq]
  show some (inb k 11 12) = some (twoB k)
  congr 1
  unfold inb twoB
  by_cases h1 : k = 11
  · subst h1; rfl
  by_cases h2 : k = 12
  · subst h2; rfl
  rw [decide_eq_false (by omega)]
  simp [h1, h2]
theorem ipr_eq (c : Int) : impl_isPrinted.f c = some (inb c 32 126) := by unfold impl_isPrinted.f; rw [iin_eq]; rfl
def badN (n : S132) : Bool := (n.f0 == 2 && !inb n.f1 32 126) || (hasB n.f0 && !setOk n.f2)
def nodeC (n : S132) : Int := if formB n = true then (if badN n = true then 3 else 0) else 1
theorem nodeFault_ev (n : S132) (hs : n.f2.size ≤ 1048576) : Ev (fun k => impl_nodeFault.f k n.f0 n.f1 n.f2 n.f3 n.f4) (nodeC n) := by
  obtain ⟨k, c, s, l, r⟩ := n
  obtain ⟨K, hK⟩ := isSet_ev s hs
  refine ⟨K + 2, fun q hq => ?_⟩
  obtain ⟨q, rfl⟩ : ∃ p, q = p + 2 := ⟨q - 2, by omega⟩
  have hset : impl_isSet.f q s = some (setOk s) := hK q (by omega)
  simp only [impl_nodeFault.f, impl_nodeFault.j0, impl_nodeFault.j1, iin_eq, ihas_eq, ione_eq, itwo_eq, ipr_eq, hset, Option.bind_some, nodeC, formB, badN]
  by_cases e1 : inb k 1 12 = true
  case neg => simp [e1]
  by_cases hk : k = 2
  · subst hk
    have e3 : hasB 2 = false := rfl
    have e4 : twoB 2 = false := rfl
    have e2 : inb 2 8 10 = false := rfl
    by_cases e5 : inb c 32 126 = true <;> by_cases e7 : s.toList = [] <;> by_cases hr : r = 0 <;> by_cases hl : l = 0 <;> simp [e1, hr, hl, e2, e3, e4, e5, e7]
  · by_cases hc : c = 0
    · subst hc
      by_cases e3 : hasB k = true <;> by_cases e4 : twoB k = true <;> by_cases e2 : inb k 8 10 = true <;> by_cases e7 : s.toList = [] <;> by_cases e6 : setOk s = true <;> by_cases hr : r = 0 <;> by_cases hl : l = 0 <;> simp [e1, hr, hl, hk, e2, e3, e4, e6, e7]
    · simp [e1, hk, hc]
end Go.Proofs.Ytjnmhpldabbeiaa.Q
end
section
namespace Go.Proofs.Ytjnmhpldabbeiaa.M
open Go.ChangeShapes Go.WideShapes Go.ChangeAt Go.RowKit
/-! ### the row's end: a law's call leaves what was there as it was -/
section
variable {H : Type} {enc : TypeId × Value → H} {P : Program}
theorem trodAll_stays (hl : laidOutB P = true) {W W' : World} {base : Nat} {sp' : Nat → Bool} : ∀ {ts : List TypeId} {vs : List Value} {ds : List (DataW H)} {ps : List MemPlace}, (ts.all fun t => P.readableRec t && decide (t < P.types.size)) = true →
    DataW.TrodAll enc P W base (fun _ => true) true ts vs ds ps → (∀ p ∈ ps, W.sameAt W' p) → (∀ p ∈ ps, sp' p.block = true) → DataW.TrodAll enc P W' base sp' true ts vs ds ps
  | [], vs, ds, ps, _, h, _, _ => by
    obtain ⟨rfl, rfl, rfl⟩ := trodAll_nil h
    exact trodAll_mk0
  | t :: ts, vs, ds, ps, hr, h, hsame, hs => by
    obtain ⟨v, vs', d, ds', p, q, rfl, rfl, rfl, h0, h1⟩ := trodAll_cons h
    simp only [List.all_cons, Bool.and_eq_true, decide_eq_true_eq] at hr
    exact trodAll_cons_mk (WideElems.Trod_stays hl hr.1.1 hr.1.2 h0 (fun x hx => hsame x (List.mem_append_left _ hx)) (fun x hx => hs x (List.mem_append_left _ hx)))
      (trodAll_stays hl hr.2 h1 (fun x hx => hsame x (List.mem_append_right _ hx)) (fun x hx => hs x (List.mem_append_right _ hx)))
theorem post_of_below {f : Func} {s : ChangeSpec} {apart fresh handsOn again : Bool} {W W' : World} {args : Array Value} {v : Value} {ds gs : List (DataW H)} {before pa pv : List MemPlace}
    (hW : DataW.Whole enc P f.params.toList s.vars apart W args.toList ds gs before)
    (hres : ∀ (b : Nat) (sp : Nat → Bool) (hd : Bool), DataW.TrodAll enc P W' b sp hd f.resultTypes.toList (v.resultList f.resultTypes.size) (s.fn H (ds ++ gs)).results [])
    (hargs : ∀ sp : Nat → Bool, (∀ p ∈ before, sp p.block = true) → DataW.TrodAll enc P W' 0 sp true f.params.toList args.toList (s.fn H (ds ++ gs)).args pa)
    (hvars : ∀ sp : Nat → Bool, (∀ p ∈ before, sp p.block = true) → DataW.TrodVars enc P W' sp s.vars (s.fn H (ds ++ gs)).vars pv)
    (hps : before = pa ++ pv) (hb : Below W.heap.size W W')
    (hok : ∀ (j : Nat) (t : TypeId) (r : Value), f.resultTypes[j]? = some t → (v.resultList f.resultTypes.size)[j]? = some r → Value.okWide P W' .any 0 t r) :
    s.post enc P f apart fresh handsOn again W args v W' := by
  have hlt : ∀ p ∈ before, p.block < W.heap.size := fun p hp => hW.lt p hp
  have hold : ∀ p ∈ before, (fun b => decide (b < W.heap.size)) p.block = true := fun p hp => by simpa using hlt p hp
  refine ⟨ds, gs, before, [], pa, pv, hW, hres _ _ _, hargs _ hold, hvars _ hold, World.keptBut_mono (fun p hp => ⟨hp, ?_⟩) (hb.frame (· ∈ before)), fun _ => ?_⟩
  · rw [hps, List.mem_append] at hp
    exact Or.inr hp
  · obtain ⟨_, _, _, _, _, hz, hn⟩ := hW
    refine ⟨hok, _, _, ([] ++ pa) ++ pv, ⟨[] ++ pa, pv, trodAll_append (hargs _ (fun _ _ => rfl)) (hres _ _ _), hvars _ (fun _ _ => rfl), rfl, ?_, ?_⟩, ?_⟩
    · intro b off hp
      have hin : MemPlace.cell b off ∈ before := by rw [hps]; simpa using hp
      rw [hb.frozen (hlt _ hin)]
      exact hz b off hin
    · intro ha
      have := hn ha
      rw [hps] at this
      simpa using this
    · intro p hp _
      rw [hps]
      simpa using hp
/-- A law's post: true, and each argument reads as it did. -/
theorem law_post {f : Func} {s : ChangeSpec} {tb : TypeId} {apart fresh handsOn again : Bool} (hl : laidOutB P = true) (htb : P.underlying tb = some .bool) (hft : f.resultTypes = #[tb]) (hvars : s.vars = [])
    (hr : (f.params.toList.all fun t => P.readableRec t && decide (t < P.types.size)) = true)
    {W W' : World} {args : Array Value} {ds gs : List (DataW H)} {before : List MemPlace} (hW : DataW.Whole enc P f.params.toList s.vars apart W args.toList ds gs before) (hb : Below W.heap.size W W')
    (hs : (s.fn H (ds ++ gs)).results = [.lit (.bool true)] ∧ (s.fn H (ds ++ gs)).args = ds ∧ (s.fn H (ds ++ gs)).vars = []) :
    s.post enc P f apart fresh handsOn again W args (.bool true) W' := by
  have hlt : ∀ p ∈ before, p.block < W.heap.size := fun p hp => hW.lt p hp
  have hW' := hW
  obtain ⟨p, q, hA0, hV, rfl, hfz, hnd⟩ := hW
  rw [hvars] at hV
  obtain ⟨rfl, rfl⟩ := trodVars_none hV
  refine post_of_below (pa := p) (pv := []) hW' (fun b sp hd => ?_) (fun sp hsp => ?_) (fun sp hsp => ?_) rfl hb ?_
  · rw [hs.1, hft]
    exact trodAll_cons_mk (p := []) (p' := []) (shut_bool htb _) trodAll_mk0
  · rw [hs.2.1]
    exact trodAll_stays hl hr hA0 (fun x hx => hb.same (hlt x (by simpa using hx))) (fun x hx => hsp x (by simpa using hx))
  · rw [hs.2.2, hvars]
    exact rfl
  · exact ok_one hft rfl (okWide_bool_mk htb _)
end
/-! ### arguments opened -/
theorem choose_list {α : Type} : ∀ {n : Nat} {Pr : Nat → α → Prop}, (∀ i, i < n → ∃ x, Pr i x) → ∃ xs : List α, xs.length = n ∧ ∀ i x, xs[i]? = some x → Pr i x
  | 0, Pr, _ => ⟨[], rfl, fun i x h => by simp at h⟩
  | n + 1, Pr, h => by
    obtain ⟨x, hx⟩ := h 0 (by omega)
    obtain ⟨xs, hl, hxs⟩ := choose_list (n := n) (Pr := fun i => Pr (i + 1)) (fun i hi => h (i + 1) (by omega))
    refine ⟨x :: xs, by simp [hl], fun i y hy => ?_⟩
    cases i with
    | zero => obtain rfl : x = y := by simpa using hy
              exact hx
    | succ i => exact hxs i y (by simpa using hy)
section
variable {H : Type} {enc : TypeId × Value → H} {P : Program} {w : World} {base : Nat} {spare : Nat → Bool} {held : Bool}
theorem open_row {α : Type} {encE : α → List Value} {G : α → Prop} {k : Nat} {t e : TypeId} (ht : P.underlying t = some (.slice e)) (hC : P.cellsOf e = k)
    (hel : ∀ {fuel : Nat} {cs : List Value} {x : DataW H × List MemPlace}, DataW.trod enc P w base spare held fuel e cs = some x → ∃ y, cs = encE y ∧ G y)
    {fuel : Nat} {cs : List Value} {x : DataW H × List MemPlace} (h : DataW.trod enc P w base spare held fuel t cs = some x) :
    ∃ (A : Option Addr) (xs : List α) (c : Nat), cs = [.slice A xs.length c] ∧ xs.length ≤ c ∧ c ≤ maxLen ∧ Row encE k w A xs ∧ ∀ (i : Nat) (y : α), xs[i]? = some y → G y := by
  subst hC
  rcases Go.Deep.open_slice ht h with ⟨rfl, _⟩ | ⟨a, len, cap, m, n, D, Pl, rfl, hb, hl, hm, hmm, hx, hi⟩
  · exact ⟨none, [], 0, rfl, by simp, by unfold maxLen; omega, Row.nil _ _ _ _, fun i y hy => by simp at hy⟩
  · have hlm : len ≤ m := by rw [hmm]; split <;> omega
    obtain ⟨xs, hxl, hxs⟩ := choose_list (n := len) (Pr := fun i y => At w (a.add (i * P.cellsOf e)) (encE y) ∧ G y) (fun i hil => by
      obtain ⟨cs', hc, ht'⟩ := hi i (by omega)
      obtain ⟨y, rfl, hG⟩ := hel ht'
      obtain ⟨_, hcl, hat⟩ := World.cells?_some hc
      refine ⟨y, At.of_add fun j v hv => ?_, hG⟩
      rw [hat j (by rw [← hcl]; exact (List.getElem?_eq_some_iff.1 hv).1), hv])
    subst hxl
    exact ⟨some a, xs, cap, rfl, hl, hm, fun i y hy => ⟨a, rfl, (hxs i y hy).1⟩, fun i y hy => (hxs i y hy).2⟩
/-- A value's own reading, from its cells. -/
theorem open_row_v {α : Type} {encE : α → List Value} {G : α → Prop} {k : Nat} {t e : TypeId} (ht : P.underlying t = some (.slice e)) (hC : P.cellsOf e = k) {r : Reach} {b0 : Nat} {v : Value} {d : DataW H} {p : List MemPlace}
    (hel : ∀ {fuel : Nat} {cs : List Value} {x : DataW H × List MemPlace}, DataW.trod enc P w base spare held fuel e cs = some x → ∃ y, cs = encE y ∧ G y)
    (hv : Value.okWide P w r b0 t v) (h : DataW.Trod enc P w base spare held t v d p) :
    ∃ (A : Option Addr) (xs : List α) (c : Nat), v = .slice A xs.length c ∧ xs.length ≤ c ∧ c ≤ maxLen ∧ Row encE k w A xs ∧ ∀ (i : Nat) (y : α), xs[i]? = some y → G y := by
  obtain ⟨a, len, cap, rfl⟩ := okWide_slice ht hv
  obtain ⟨fuel, hf⟩ := h
  obtain ⟨A, xs, c, hcs, h1⟩ := open_row ht hC hel hf
  obtain hcs : [Value.slice a len cap] = [.slice A xs.length c] := hcs
  exact ⟨A, xs, c, (List.cons.inj hcs).1, h1⟩
/-- A struct's field of one cell. -/
theorem field_of {t : TypeId} {fs : Array Field} {fuel : Nat} {cs : List Value} {x : DataW H × List MemPlace} (ht : P.underlying t = some (.struct fs)) (h : DataW.trod enc P w base spare held fuel t cs = some x) :
    cs.length = P.cellsOf t ∧ ∀ (i : Nat) (f : Field), fs[i]? = some f → ∃ n y, DataW.trod enc P w base spare held n f.type ((cs.drop f.offset).take (P.cellsOf f.type)) = some y := by
  obtain ⟨xs, n, _, _, hlen, hsz, hf⟩ := DataW.trod_struct ht h
  refine ⟨hlen, fun i f hi => ?_⟩
  have hil : i < xs.length := by rw [hsz]; exact (Array.getElem?_eq_some_iff.1 hi).1
  exact ⟨n, _, (hf i f hi).trans (List.getElem?_eq_getElem hil)⟩
theorem open_struct_v {t : TypeId} {fs : Array Field} (ht : P.underlying t = some (.struct fs)) {r : Reach} {b0 : Nat} {v : Value} {d : DataW H} {p : List MemPlace} (hv : Value.okWide P w r b0 t v) (h : DataW.Trod enc P w base spare held t v d p) :
    ∃ (cs : List Value) (fuel : Nat) (x : DataW H × List MemPlace), v = .agg cs.toArray ∧ DataW.trod enc P w base spare held fuel t cs = some x := by
  obtain ⟨⟨cs⟩, rfl, _⟩ := okWide_struct ht hv
  obtain ⟨fuel, hf⟩ := h
  exact ⟨cs, fuel, _, rfl, hf⟩
theorem field_one {t : TypeId} {fs : Array Field} {fuel : Nat} {cs : List Value} {x : DataW H × List MemPlace} (ht : P.underlying t = some (.struct fs)) (h : DataW.trod enc P w base spare held fuel t cs = some x)
    (i : Nat) (f : Field) (hi : fs[i]? = some f) (ft : TypeId) (off : Nat) (e1 : f.type = ft) (e2 : f.offset = off) (hC : P.cellsOf ft = 1) (hoff : off < P.cellsOf t) :
    ∃ v n y, cs[off]? = some v ∧ DataW.trod enc P w base spare held n ft [v] = some y := by
  obtain ⟨hl, hf⟩ := field_of ht h
  obtain ⟨n, y, hy⟩ := hf i f hi
  rw [e1, e2, hC, List.drop_eq_getElem_cons (by omega)] at hy
  exact ⟨_, n, y, List.getElem?_eq_getElem (by omega), hy⟩
end
theorem own_knob : ownKnob Try.prog.godebug = none := by kernel_rfl
theorem laid_out : laidOutB Try.prog = true := by kernel_rfl
theorem cells_int64 : Try.prog.cellsOf 2 = 1 := by kernel_rfl
theorem cells_bool : Try.prog.cellsOf 4 = 1 := by kernel_rfl
theorem cells_string : Try.prog.cellsOf 9 = 1 := by kernel_rfl
theorem cells_uint8 : Try.prog.cellsOf 5 = 1 := by kernel_rfl
section
variable {H : Type} {enc : TypeId × Value → H} {w : World} {base : Nat} {spare : Nat → Bool} {held : Bool}
theorem el_int64 {fuel : Nat} {cs : List Value} {x : DataW H × List MemPlace} (h : DataW.trod enc Try.prog w base spare held fuel 2 cs = some x) : ∃ y : Int, cs = [.int .i64 y] ∧ True := by
  obtain ⟨a, ea, _, wa⟩ := DataW.trod_int Try.underlying2 h
  exact ⟨a, ea, trivial⟩
theorem el_bool {fuel : Nat} {cs : List Value} {x : DataW H × List MemPlace} (h : DataW.trod enc Try.prog w base spare held fuel 4 cs = some x) : ∃ y : Bool, cs = [.bool y] ∧ True := by
  obtain ⟨a, ea, _⟩ := DataW.trod_bool Try.underlying4 h
  exact ⟨a, ea, trivial⟩
theorem el_uint8 {fuel : Nat} {cs : List Value} {x : DataW H × List MemPlace} (h : DataW.trod enc Try.prog w base spare held fuel 5 cs = some x) : ∃ y : Int, cs = [.int .u8 y] ∧ 0 ≤ y ∧ y ≤ 255 := by
  obtain ⟨a, ea, _, wa⟩ := DataW.trod_int Try.underlying5 h
  exact ⟨a, ea, bounds_u8 wa⟩
theorem el_int64b {fuel : Nat} {cs : List Value} {x : DataW H × List MemPlace} (h : DataW.trod enc Try.prog w base spare held fuel 2 cs = some x) : ∃ y : Int, cs = [.int .i64 y] ∧ -9223372036854775808 ≤ y ∧ y ≤ 9223372036854775807 := by
  obtain ⟨a, ea, _, wa⟩ := DataW.trod_int Try.underlying2 h
  exact ⟨a, ea, bounds_i64 wa⟩
end
end Go.Proofs.Ytjnmhpldabbeiaa.M
end
section
namespace Go.Proofs.Ytjnmhpldabbeiaa.M
open Go.RowKit
open Go.Proofs.YtjnmhpldabbeiaaW.PrintWords
section
variable {α β : Type} {d : Kd α} {enc : β → List Value} {f : α → β} {k : Nat} {w : World} {A : Option Addr} {n : Nat} {xs : List α}
theorem row_of_C (hk : d.sz = k) (hK : ∀ {w : World} {x cs}, d.K w x cs → cs = enc (f x)) (h : Kd.C d w A n xs) : Row enc k w A (xs.map f) := fun i y hy => by
  rw [List.getElem?_map] at hy
  cases hx : xs[i]? with
  | none => rw [hx] at hy; cases hy
  | some x =>
    rw [hx] at hy
    obtain rfl : f x = y := by simpa using hy
    have hi : i < xs.length := (List.getElem?_eq_some_iff.1 hx).1
    obtain ⟨ad, e, hc⟩ := h.2.2 (by rw [← h.1]; omega)
    obtain ⟨c, hcl, hR, hcell⟩ := hc i x hx
    refine ⟨ad, e, At.of_add fun j v hv => ?_⟩
    rw [hK hR] at hcell
    rw [add_add, ← hk]
    exact hcell j v hv
theorem C_of_row (hk : d.sz = k) (hK : ∀ (w : World) (x : α), d.K w x (enc (f x))) (hl : ∀ y, (enc y).length = k) (hm : xs.length ≤ 9223372036854775807) (h : Row enc k w A (xs.map f)) : Kd.C d w A xs.length xs := by
  refine ⟨rfl, hm, fun hn => ?_⟩
  obtain ⟨x0, hx0⟩ := get_lt hn
  obtain ⟨ad, e, _⟩ := h 0 (f x0) (by simp [hx0])
  refine ⟨ad, e, fun j p hj => ⟨enc (f p), by rw [hl, hk], hK w p, fun i u hu => ?_⟩⟩
  obtain ⟨ad', e', ha⟩ := h j (f p) (by simp [hj])
  obtain rfl : ad = ad' := by rw [e] at e'; exact Option.some.inj e'
  rw [hk, ← add_add]
  exact ha.add i u hu
theorem R_of_own {e : TypeId} {base : Nat} {v : Value} (hk : d.sz = k) (hM : ∀ (w : World) (b : Nat) (ok : Nat → Prop) (x : α), d.M w b ok x (enc (f x))) (hl : ∀ y, (enc y).length = k) (h : Own enc k e w base v (xs.map f)) : Kd.R d e w base (fun _ => True) v xs := by
  obtain ⟨cells, hE, ho⟩ := h
  rw [List.length_map] at ho
  refine ⟨fun _ _ => trivial, cells, by rw [hk]; exact ho, by rw [hE.1, List.length_map, hk], fun j p hj => ?_⟩
  have e : (cells.drop (j * d.sz)).take d.sz = enc (f p) := by
    have hjl : j < xs.length := (List.getElem?_eq_some_iff.1 hj).1
    have h1 : j * k + k ≤ cells.length := by rw [hE.1, List.length_map, ← Nat.succ_mul]; exact Nat.mul_le_mul_right _ hjl
    apply List.ext_getElem?
    intro i
    rw [hk]
    by_cases hi : i < k
    · rw [List.getElem?_take_of_lt hi, List.getElem?_drop]
      exact (hE.2 j (f p) (by simp [hj]) i _ (List.getElem?_eq_getElem (by rw [hl]; exact hi))).trans (List.getElem?_eq_getElem (by rw [hl]; exact hi)).symm
    · rw [List.getElem?_eq_none (by rw [List.length_take]; omega), List.getElem?_eq_none (by rw [hl]; omega)]
  rw [e]
  exact hM _ _ _ p
theorem own_of_R {e : TypeId} {base : Nat} {ok : Nat → Prop} {v : Value} (hk : d.sz = k) (hM : ∀ {w : World} {b : Nat} {ok : Nat → Prop} {x cs}, d.M w b ok x cs → cs = enc (f x)) (hl : ∀ y, (enc y).length = k) (h : Kd.R d e w base ok v xs) : Own enc k e w base v (xs.map f) := by
  obtain ⟨_, cells, ho, hR⟩ := h
  rw [hk] at ho
  refine ⟨cells, ⟨by rw [hR.1, List.length_map, hk], fun i y hy j u hu => ?_⟩, by rw [List.length_map]; exact ho⟩
  rw [List.getElem?_map] at hy
  cases hx : xs[i]? with
  | none => rw [hx] at hy; cases hy
  | some x =>
    rw [hx] at hy
    obtain rfl : f x = y := by simpa using hy
    have e := hM (hR.2 i x hx)
    have hj : j < k := by rw [← hl (f x)]; exact (List.getElem?_eq_some_iff.1 hu).1
    rw [hk] at e
    rw [← e, List.getElem?_take_of_lt hj, List.getElem?_drop] at hu
    exact hu
end
theorem row_ints {k : IntKind} {w : World} {A : Option Addr} {n : Nat} {xs : List Int} (h : Kd.C (Kd.int k) w A n xs) : Row (fun x => [Value.int k x]) 1 w A xs := by
  have := row_of_C (d := Kd.int k) (enc := fun x : Int => [Value.int k x]) (f := id) (k := 1) rfl (fun h => h) h
  simpa using this
theorem C_ints {k : IntKind} {w : World} {A : Option Addr} {xs : List Int} (hm : xs.length ≤ 9223372036854775807) (h : Row (fun x => [Value.int k x]) 1 w A xs) : Kd.C (Kd.int k) w A xs.length xs :=
  C_of_row (d := Kd.int k) (enc := fun x : Int => [Value.int k x]) (f := id) (k := 1) rfl (fun _ _ => rfl) (fun _ => rfl) hm (by simpa using h)
theorem R_ints {k : IntKind} {w : World} {e : TypeId} {base : Nat} {v : Value} {xs : List Int} (h : Own (fun x => [Value.int k x]) 1 e w base v xs) : Kd.R (Kd.int k) e w base (fun _ => True) v xs :=
  R_of_own (d := Kd.int k) (enc := fun x : Int => [Value.int k x]) (f := id) (k := 1) rfl (fun _ _ _ _ => rfl) (fun _ => rfl) (by simpa using h)
end Go.Proofs.Ytjnmhpldabbeiaa.M
end
section
namespace Go.Proofs.Ytjnmhpldabbeiaa.Q
open Go.RowKit Go.Proofs.YtjnmhpldabbeiaaW.PrintWords Go.Proofs.YtjnmhpldabbeiaaW.PrintLast Go.Proofs.YtjnmhpldabbeiaaW.PrintMore Go.Proofs.Ytjnmhpldabbeiaa.L
theorem rd_inst (l : List S134) (i : Nat) (h : i < l.length) : rd_T134 l (i : Int) = l[i] := by simp [rd_T134, List.getD_eq_getElem?_getD, h]
theorem rd_linst (l : List S131) (i : Nat) (h : i < l.length) : rd_T131 l (i : Int) = l[i] := by simp [rd_T131, List.getD_eq_getElem?_getD, h]
def cvInst (i : S131) : S134 := ⟨i.f0, ⟨i.f1.f0, i.f1.f1, i.f1.f2, i.f1.f3, i.f1.f4⟩, i.f2, i.f3⟩
theorem laws_toInstS.ev (l : List S131) (h : l.length ≤ 1048576) : Ev (fun k => laws_toInstS.f k l) (l.map cvInst) := by
  unfold laws_toInstS.f
  refine Ev.pos (by omega) (Ev.pos (by omega) ?_)
  simp only [Int.toNat_natCast]
  have e : l.length = (l.map cvInst).length := by simp
  rw [e]
  refine copy_all (fun k ys i => laws_toInstS.l0 k l ys i) (l.map cvInst) z134 (fun k ys i h hl => ?_) (fun k ys => ?_)
  · have hi : i < l.length := by simpa using h
    simp only [laws_toInstS.l0, laws_toInst.f, laws_toNode.f, Option.bind_some]
    rw [if_pos (by omega), if_pos (by omega), if_pos (by omega), Int.toNat_natCast, rd_linst _ _ hi, w64 (by omega) (by omega)]
    simp [cvInst]
  · simp only [laws_toInstS.l0]
    rw [if_neg (by simp)]
theorem laws_eqInstS.ev (l : List S134) (h : l.length ≤ 1073741824) : Ev (fun k => laws_eqInstS.f k l l) true := by
  unfold laws_eqInstS.f
  refine Ev.pos rfl ?_
  refine all_all (fun k i => laws_eqInstS.l0 k l l i) l.length true (fun k i h => ?_) (fun k => ?_)
  · simp only [laws_eqInstS.l0, laws_eqInst.f, laws_eqNode.f, if_true, Option.bind_some]
    rw [if_pos (by omega), if_pos (by omega), if_pos (by omega), w64 (by omega) (by omega)]
    rfl
  · simp only [laws_eqInstS.l0]
    rw [if_neg (by omega)]
def szFrom : Int → List S131 → Int
  | m, [] => m
  | m, i :: t => if m - i.f1.f2.size < 0 then -1 else szFrom (m - i.f1.f2.size) t
def szInsts (l : List S131) : Int := if (1048576 : Int) - l.length < 0 then -1 else szFrom (1048576 - l.length) l
theorem szFrom_small : ∀ (l : List S131) (m : Int), 0 ≤ szFrom m l → ∀ i ∈ l, (i.f1.f2.size : Int) ≤ m
  | [], _, _, i, hi => by cases hi
  | x :: t, m, h, i, hi => by
    unfold szFrom at h
    split at h
    · omega
    · rename_i hc
      rcases List.mem_cons.mp hi with rfl | hi
      · omega
      · have := szFrom_small t _ h i hi
        omega
theorem laws_szInstS.ev (l : List S131) (h : l.length ≤ 9223372036854775807) (hs : ∀ i ∈ l, i.f1.f2.size ≤ 9223372036854775807) : Ev (fun k => laws_szInstS.f k l 1048576) (szInsts l) := by
  unfold laws_szInstS.f szInsts
  rw [w64 (by omega) (by omega)]
  by_cases hc : (1048576 : Int) - l.length < 0
  · rw [if_pos hc]
    exact Ev.pos hc (Ev.now _)
  rw [if_neg hc]
  refine Ev.neg hc ?_
  have key : ∀ (d i : Nat) (m : Int), l.length - i = d → i ≤ l.length → 0 ≤ m → m ≤ 1048576 → Ev (fun k => laws_szInstS.l0 k l m (i : Int)) (szFrom m (l.drop i)) := by
    intro d
    induction d with
    | zero =>
      intro i m hd hi h0 h1
      refine Ev.succ ?_
      simp only [laws_szInstS.l0]
      rw [List.drop_eq_nil_of_le (by omega)]
      exact Ev.neg (by omega) (Ev.now _)
    | succ d ih =>
      intro i m hd hi h0 h1
      have hlt : i < l.length := by omega
      have hz := hs l[i] (List.getElem_mem hlt)
      refine Ev.succ ?_
      rw [List.drop_eq_getElem_cons hlt, szFrom]
      simp only [laws_szInstS.l0, laws_szInst.f, laws_szNode.f, rd_linst l i hlt]
      rw [w64 (x := m - (l[i].f1.f2.size : Int)) (by omega) (by omega), w64 (x := (i : Int) + 1) (by omega) (by omega)]
      refine Ev.pos (by omega) (Ev.pos (by omega) ?_)
      by_cases c : m - (l[i].f1.f2.size : Int) < 0
      · simp only [if_pos c, Option.bind_some]
        exact Ev.bind0 rfl (Ev.pos (by omega) (Ev.now _))
      · simp only [if_neg c, Option.bind_some]
        exact ih (i + 1) _ (by omega) (by omega) (by omega) (by omega)
  exact key l.length 0 _ rfl (by omega) (by omega) (by omega)
/-! a row of instructions that came in -/
def eLInst (i : S131) : List Value := [.int .i64 i.f0, .int .i64 i.f1.f0, .int .i64 i.f1.f1, .string i.f1.f2, .int .i64 i.f1.f3, .int .i64 i.f1.f4, .int .i64 i.f2, .int .i64 i.f3]
theorem cells_linst : Try.prog.cellsOf 131 = 8 := by kernel_rfl
theorem cells_lnode : Try.prog.cellsOf 129 = 5 := by kernel_rfl
section
variable {H : Type} {enc : TypeId × Value → H} {w : World} {base : Nat} {spare : Nat → Bool} {held : Bool}
theorem el_lnode {fuel : Nat} {cs : List Value} {x : DataW H × List MemPlace} (h : DataW.trod enc Try.prog w base spare held fuel 129 cs = some x) : ∃ y : S129, cs = [.int .i64 y.f0, .int .i64 y.f1, .string y.f2, .int .i64 y.f3, .int .i64 y.f4] ∧ y.f2.size ≤ maxLen := by
  obtain ⟨hl, _⟩ := M.field_of Try.underlying129 h
  rw [cells_lnode] at hl
  obtain ⟨v0, _, _, e0, h0⟩ := M.field_one Try.underlying129 h 0 _ rfl 2 0 rfl rfl M.cells_int64 (by rw [cells_lnode]; decide)
  obtain ⟨v1, _, _, e1, h1⟩ := M.field_one Try.underlying129 h 1 _ rfl 2 1 rfl rfl M.cells_int64 (by rw [cells_lnode]; decide)
  obtain ⟨v2, _, _, e2, h2⟩ := M.field_one Try.underlying129 h 2 _ rfl 9 2 rfl rfl M.cells_string (by rw [cells_lnode]; decide)
  obtain ⟨v3, _, _, e3, h3⟩ := M.field_one Try.underlying129 h 3 _ rfl 2 3 rfl rfl M.cells_int64 (by rw [cells_lnode]; decide)
  obtain ⟨v4, _, _, e4, h4⟩ := M.field_one Try.underlying129 h 4 _ rfl 2 4 rfl rfl M.cells_int64 (by rw [cells_lnode]; decide)
  obtain ⟨a, ea, _, _⟩ := DataW.trod_int Try.underlying2 h0
  obtain ⟨b, eb, _, _⟩ := DataW.trod_int Try.underlying2 h1
  obtain ⟨s, es, _, hs⟩ := DataW.trod_string Try.underlying9 h2
  obtain ⟨c, ec, _, _⟩ := DataW.trod_int Try.underlying2 h3
  obtain ⟨d, ed, _, _⟩ := DataW.trod_int Try.underlying2 h4
  cases ea
  cases eb
  cases es
  cases ec
  cases ed
  clear h0 h1 h2 h3 h4 h
  obtain ⟨c0, c1, c2, c3, c4, rfl⟩ := len5 hl
  cases e0
  cases e1
  cases e2
  cases e3
  cases e4
  exact ⟨⟨a, b, s, c, d⟩, rfl, hs⟩
theorem el_linst {fuel : Nat} {cs : List Value} {x : DataW H × List MemPlace} (h : DataW.trod enc Try.prog w base spare held fuel 131 cs = some x) : ∃ y : S131, cs = eLInst y ∧ y.f1.f2.size ≤ maxLen := by
  obtain ⟨hl, hf⟩ := M.field_of Try.underlying131 h
  rw [cells_linst] at hl
  obtain ⟨v0, _, _, e0, h0⟩ := M.field_one Try.underlying131 h 0 _ rfl 2 0 rfl rfl M.cells_int64 (by rw [cells_linst]; decide)
  obtain ⟨_, _, hn⟩ := hf 1 _ rfl
  obtain ⟨v6, _, _, e6, h6⟩ := M.field_one Try.underlying131 h 2 _ rfl 2 6 rfl rfl M.cells_int64 (by rw [cells_linst]; decide)
  obtain ⟨v7, _, _, e7, h7⟩ := M.field_one Try.underlying131 h 3 _ rfl 2 7 rfl rfl M.cells_int64 (by rw [cells_linst]; decide)
  obtain ⟨n, en, hz⟩ := el_lnode hn
  obtain ⟨a, ea, _, _⟩ := DataW.trod_int Try.underlying2 h0
  obtain ⟨b, eb, _, _⟩ := DataW.trod_int Try.underlying2 h6
  obtain ⟨c, ec, _, _⟩ := DataW.trod_int Try.underlying2 h7
  cases ea
  cases eb
  cases ec
  clear h0 h6 h7 h hn hf
  obtain ⟨c0, c1, c2, c3, c4, c5, c6, c7, rfl⟩ := len8 hl
  cases e0
  cases e6
  cases e7
  have en : List.take (Try.prog.cellsOf 129) (List.drop 1 [Value.int .i64 a, c1, c2, c3, c4, c5, .int .i64 b, .int .i64 c]) = [Value.int .i64 n.f0, .int .i64 n.f1, .string n.f2, .int .i64 n.f3, .int .i64 n.f4] := en
  rw [cells_lnode] at en
  have en' : [c1, c2, c3, c4, c5] = [Value.int .i64 n.f0, .int .i64 n.f1, .string n.f2, .int .i64 n.f3, .int .i64 n.f4] := en
  injection en' with i1 en'
  injection en' with i2 en'
  injection en' with i3 en'
  injection en' with i4 en'
  injection en' with i5 _
  subst i1 i2 i3 i4 i5
  exact ⟨⟨a, n, b, c⟩, rfl, hz⟩
end
theorem C_linst {w : World} {A : Option Addr} {xs : List S131} (hm : xs.length ≤ 9223372036854775807) (h : M.Row eLInst 8 w A xs) : Kd.C k131 w A xs.length xs :=
  M.C_of_row (f := id) (k := 8) rfl (fun w x => k131_mk w x) (fun _ => rfl) hm (by simpa using h)
end Go.Proofs.Ytjnmhpldabbeiaa.Q
end
section
namespace Go.Proofs.Ytjnmhpldabbeiaa.Q
open Go.RowKit Go.Proofs.YtjnmhpldabbeiaaW.PrintWords Go.Proofs.YtjnmhpldabbeiaaW.PrintLast Go.Proofs.YtjnmhpldabbeiaaW.PrintMore
set_option maxHeartbeats 8000000 in
set_option maxRecDepth 100000 in
theorem l7Form_q (i : S134) (q : Bool) (hq : form7 i = q) (p : Addr) (w : World) (hp : M.At w p (cells7 i)) :
    Calls Try.prog 134 #[.pointer (some p)] w fun e w' => e = .returned (.bool q) ∧ Drawn0 w w' := by
  obtain ⟨op, ⟨k, c, s, l, r⟩, x, y⟩ := i
  have hN : M.At w ⟨p.block, p.off + 1, none⟩ [.int .i64 k, .int .i64 c, .string s, .int .i64 l, .int .i64 r] := ⟨fun v hv => hp.2 0 v hv, fun j v hv => by
    have := hp.2 (j + 1) v (by
      cases j with
      | zero => exact hv
      | succ j => cases j with
        | zero => exact hv
        | succ j => cases j with
          | zero => exact hv
          | succ j => cases j with
            | zero => exact hv
            | succ j => cases hv)
    rw [show p.off + 1 + (j + 1) = p.off + (j + 1 + 1) by omega]
    exact this⟩
  obtain ⟨a0, a1, a2, a3, a4, a5, a6, a7⟩ := hp.eight
  obtain ⟨b1, b2, b3, b4, b5⟩ := hN.five
  have HQ := Aside0.mk hq
  have HN := Aside0.mk hN
  have HF := Aside0.mk (formB_eq ⟨k, c, s, l, r⟩)
  clear hq hp hN
  rcases q1 : inb op 1 6 with _ | _
  · have Q1 := Aside0.mk ((inb_eq op 1 6).trans (congrArg some q1))
    go_enter Try.func134, Try.ntmps134
    go_wp2_with (first | (go_at_call 78; (with_reducible refine (spec_l1In.calls op 1 6 false _ Q1.out).mono ?_); rintro e w' ⟨rfl, ⟨nd, rfl⟩⟩))
    go_ret
    exact ⟨by rw [← HQ.out]; simp [form7, q1], by repeat (first | exact Drawn0.refl _ | apply Drawn0.step)⟩
  have Q1 := Aside0.mk ((inb_eq op 1 6).trans (congrArg some q1))
  by_cases o1 : op = 1
  · subst o1
    by_cases y0 : y = 0
    · subst y0
      rcases q2 : formB ⟨k, c, s, l, r⟩ with _ | _
      · have F := Aside0.mk (q2 ▸ HF.out)
        go_enter Try.func134, Try.ntmps134
        go_wp2_with (first | (go_at_call 78; (with_reducible refine (spec_l1In.calls 1 1 6 true _ Q1.out).mono ?_); rintro e w' ⟨rfl, ⟨nd, rfl⟩⟩) | (go_at_call 142; (with_reducible refine (spec_l5Form.callsAt 1 _ k c s l r _ k c s l r _ ?side1 F.out).mono ?_); (case side1 => exact HN.out); rintro e w' ⟨rfl, ⟨nd, rfl⟩⟩))
        all_goals go_ret
        all_goals (refine ⟨?_, by repeat (first | exact Drawn0.refl _ | apply Drawn0.step)⟩; rw [← HQ.out]; first | (simp [form7, nodeZ, q1, q2]; done) | (simp_all [form7, nodeZ]; done))
      · have F := Aside0.mk (q2 ▸ HF.out)
        rcases q3 : inb k 2 5 with _ | _
        · have Q3 := Aside0.mk ((alone_eq k).trans (congrArg some q3))
          go_enter Try.func134, Try.ntmps134
          go_wp2_with (first | (go_at_call 78; (with_reducible refine (spec_l1In.calls 1 1 6 true _ Q1.out).mono ?_); rintro e w' ⟨rfl, ⟨nd, rfl⟩⟩) | (go_at_call 142; (with_reducible refine (spec_l5Form.callsAt 1 _ k c s l r _ k c s l r _ ?side1 F.out).mono ?_); (case side1 => exact HN.out); rintro e w' ⟨rfl, ⟨nd, rfl⟩⟩) | (go_at_call 178; (with_reducible refine (spec_l7Alone.calls k false _ Q3.out).mono ?_); rintro e w' ⟨rfl, ⟨nd, rfl⟩⟩))
          all_goals go_ret
          all_goals (refine ⟨?_, by repeat (first | exact Drawn0.refl _ | apply Drawn0.step)⟩; rw [← HQ.out]; first | (simp [form7, nodeZ, q1, q2, q3]; done) | (simp_all [form7, nodeZ]; done))
        · have Q3 := Aside0.mk ((alone_eq k).trans (congrArg some q3))
          go_enter Try.func134, Try.ntmps134
          go_wp2_with (first | (go_at_call 78; (with_reducible refine (spec_l1In.calls 1 1 6 true _ Q1.out).mono ?_); rintro e w' ⟨rfl, ⟨nd, rfl⟩⟩) | (go_at_call 142; (with_reducible refine (spec_l5Form.callsAt 1 _ k c s l r _ k c s l r _ ?side1 F.out).mono ?_); (case side1 => exact HN.out); rintro e w' ⟨rfl, ⟨nd, rfl⟩⟩) | (go_at_call 178; (with_reducible refine (spec_l7Alone.calls k true _ Q3.out).mono ?_); rintro e w' ⟨rfl, ⟨nd, rfl⟩⟩))
          all_goals go_ret
          all_goals (refine ⟨?_, by repeat (first | exact Drawn0.refl _ | apply Drawn0.step)⟩; rw [← HQ.out]; first | (simp [form7, nodeZ, q1, q2, q3]; done) | (simp_all [form7, nodeZ]; done))
    · skip
      have ey0 : (y == 0) = false := beq_eq_false_iff_ne.mpr y0
      have fy0 : (y != 0) = true := bne_iff_ne.mpr y0
      go_enter Try.func134, Try.ntmps134
      go_wp2_with (first | (go_at_call 78; (with_reducible refine (spec_l1In.calls 1 1 6 true _ Q1.out).mono ?_); rintro e w' ⟨rfl, ⟨nd, rfl⟩⟩))
      all_goals go_ret
      all_goals (refine ⟨?_, by repeat (first | exact Drawn0.refl _ | apply Drawn0.step)⟩; rw [← HQ.out]; first | (simp [form7, nodeZ, q1, y0]; done) | (simp_all [form7, nodeZ]; done))
  by_cases o2 : op = 2
  · subst o2
    go_enter Try.func134, Try.ntmps134
    go_wp2_with (first | (go_at_call 78; (with_reducible refine (spec_l1In.calls 2 1 6 true _ Q1.out).mono ?_); rintro e w' ⟨rfl, ⟨nd, rfl⟩⟩))
    all_goals go_ret
    all_goals (refine ⟨?_, by repeat (first | exact Drawn0.refl _ | apply Drawn0.step)⟩; rw [← HQ.out]; first | (simp [form7, nodeZ, q1]; done) | (simp_all [form7, nodeZ]; done))
  by_cases o6 : op = 6
  · subst o6
    by_cases y0 : y = 0
    · subst y0
      by_cases x0 : x = 0
      · subst x0
        go_enter Try.func134, Try.ntmps134
        go_wp2_with (first | (go_at_call 78; (with_reducible refine (spec_l1In.calls 6 1 6 true _ Q1.out).mono ?_); rintro e w' ⟨rfl, ⟨nd, rfl⟩⟩))
        all_goals go_ret
        all_goals (refine ⟨?_, by repeat (first | exact Drawn0.refl _ | apply Drawn0.step)⟩; rw [← HQ.out]; first | (simp [form7, nodeZ, q1]; done) | (simp_all [form7, nodeZ]; done))
      · skip
        have ex0 : (x == 0) = false := beq_eq_false_iff_ne.mpr x0
        have fx0 : (x != 0) = true := bne_iff_ne.mpr x0
        go_enter Try.func134, Try.ntmps134
        go_wp2_with (first | (go_at_call 78; (with_reducible refine (spec_l1In.calls 6 1 6 true _ Q1.out).mono ?_); rintro e w' ⟨rfl, ⟨nd, rfl⟩⟩))
        all_goals go_ret
        all_goals (refine ⟨?_, by repeat (first | exact Drawn0.refl _ | apply Drawn0.step)⟩; rw [← HQ.out]; first | (simp [form7, nodeZ, q1, x0]; done) | (simp_all [form7, nodeZ]; done))
    · skip
      have ey0 : (y == 0) = false := beq_eq_false_iff_ne.mpr y0
      have fy0 : (y != 0) = true := bne_iff_ne.mpr y0
      go_enter Try.func134, Try.ntmps134
      go_wp2_with (first | (go_at_call 78; (with_reducible refine (spec_l1In.calls 6 1 6 true _ Q1.out).mono ?_); rintro e w' ⟨rfl, ⟨nd, rfl⟩⟩))
      all_goals go_ret
      all_goals (refine ⟨?_, by repeat (first | exact Drawn0.refl _ | apply Drawn0.step)⟩; rw [← HQ.out]; first | (simp [form7, nodeZ, q1, y0]; done) | (simp_all [form7, nodeZ]; done))
  have eop1 : (op == 1) = false := beq_eq_false_iff_ne.mpr o1
  have fop1 : (op != 1) = true := bne_iff_ne.mpr o1
  have eop2 : (op == 2) = false := beq_eq_false_iff_ne.mpr o2
  have fop2 : (op != 2) = true := bne_iff_ne.mpr o2
  have eop6 : (op == 6) = false := beq_eq_false_iff_ne.mpr o6
  have fop6 : (op != 6) = true := bne_iff_ne.mpr o6
  by_cases y0 : y = 0
  · subst y0
    go_enter Try.func134, Try.ntmps134
    go_wp2_with (first | (go_at_call 78; (with_reducible refine (spec_l1In.calls op 1 6 true _ Q1.out).mono ?_); rintro e w' ⟨rfl, ⟨nd, rfl⟩⟩))
    all_goals go_ret
    all_goals (refine ⟨?_, by repeat (first | exact Drawn0.refl _ | apply Drawn0.step)⟩; rw [← HQ.out]; first | (simp [form7, nodeZ, q1, o1, o2, o6]; done) | (simp_all [form7, nodeZ]; done))
  · skip
    have ey0 : (y == 0) = false := beq_eq_false_iff_ne.mpr y0
    have fy0 : (y != 0) = true := bne_iff_ne.mpr y0
    go_enter Try.func134, Try.ntmps134
    go_wp2_with (first | (go_at_call 78; (with_reducible refine (spec_l1In.calls op 1 6 true _ Q1.out).mono ?_); rintro e w' ⟨rfl, ⟨nd, rfl⟩⟩))
    all_goals go_ret
    all_goals (refine ⟨?_, by repeat (first | exact Drawn0.refl _ | apply Drawn0.step)⟩; rw [← HQ.out]; first | (simp [form7, nodeZ, q1, o1, o2, o6, y0]; done) | (simp_all [form7, nodeZ]; done))
end Go.Proofs.Ytjnmhpldabbeiaa.Q
end
section
namespace Go.Proofs.Ytjnmhpldabbeiaa.Q
open Go.RowKit Go.Proofs.YtjnmhpldabbeiaaW.PrintWords Go.Proofs.YtjnmhpldabbeiaaW.PrintLast Go.Proofs.YtjnmhpldabbeiaaW.PrintMore
attribute [local go_sem] max2_int min2_int max_two min_two max_three min_three max_four min_four   -- for this text's walks alone
set_option linter.unusedVariables false
set_option linter.unusedSimpArgs false

/-! ### spec_l7Fault: function 90 -/
def spec_l7Fault.f (l0 : List S134) : Option Int := if small7 l0 = true then some (prog7 l0) else none
theorem at7 {w : World} {A : Option Addr} {l0 : List S134} (h : Kd.C k134 w A l0.length l0) (j : Nat) (hj : j < l0.length) : ∃ ad, A = some ad ∧ M.At w (ad.add (j * 8)) (cells7 (rd_T134 l0 j)) := by
  obtain ⟨ad, e, h0, h1, h2, h3, h4, h5, h6, h7⟩ := at_T134 h (j : Int) (by omega) (by omega)
  simp only [Int.toNat_natCast] at h0 h1 h2 h3 h4 h5 h6 h7
  refine ⟨ad, e, fun v hv => ?_, fun i v hv => ?_⟩
  · obtain rfl := Option.some.inj hv
    exact h0
  · rcases i with _ | _ | _ | _ | _ | _ | _ | i
    · obtain rfl := Option.some.inj hv; exact h1
    · obtain rfl := Option.some.inj hv; exact h2
    · obtain rfl := Option.some.inj hv; exact h3
    · obtain rfl := Option.some.inj hv; exact h4
    · obtain rfl := Option.some.inj hv; exact h5
    · obtain rfl := Option.some.inj hv; exact h6
    · obtain rfl := Option.some.inj hv; exact h7
    · cases hv
set_option maxHeartbeats 8000000 in
set_option maxRecDepth 100000 in
theorem spec_l7Fault.calls (A0 : Option Addr) (c0 : Nat) (l0 : List (S134)) (r : Int) (w : World) (hr0 : Kd.C k134 w A0 l0.length l0) (hc0 : l0.length ≤ c0) (h : spec_l7Fault.f l0 = some r) :
    Calls Try.prog 90 #[.slice A0 l0.length c0] w fun e w' => e = .returned (.int .i64 r) ∧ Drawn0 w w' := by
  unfold spec_l7Fault.f at h
  split at h
  case isFalse => cases h
  case isTrue hz =>
  have h := Option.some.inj h
  rcases q1 : inb (l0.length : Int) 1 80 with _ | _
  · have Q1 := Aside0.mk ((inb_eq (l0.length : Int) 1 80).trans (congrArg some q1))
    have HR := Aside0.mk h
    clear h hz
    go_enter Try.func90, Try.ntmps90
    go_wp2_with (first | (go_at_call 78; (with_reducible refine (spec_l1In.calls _ 1 80 false _ Q1.out).mono ?_); rintro e w' ⟨rfl, ⟨nd, rfl⟩⟩))
    go_ret
    exact ⟨by rw [← HR.out]; simp [prog7, q1], by repeat (first | exact Drawn0.refl _ | apply Drawn0.step)⟩
  have Q1 := Aside0.mk ((inb_eq (l0.length : Int) 1 80).trans (congrArg some q1))
  have hlen : 1 ≤ (l0.length : Int) ∧ (l0.length : Int) ≤ 80 := by simpa [inb] using q1
  have HS := Aside0.mk (show scan7 l0.length l0 = r by rw [← h]; simp [prog7, q1])
  have HZ := Aside0.mk hz
  have HR0 := Aside0.mk hr0
  have HL := Aside0.mk hlen
  have hw1 : wrap64 ((l0.length : Int) - 1) = (l0.length : Int) - 1 := L.w64 (by omega) (by omega)
  have HW := Aside0.mk hw1
  clear h hz hr0 hlen hw1 q1
  go_enter Try.func90, Try.ntmps90
  go_wp2_with (first | (go_at_call 78; (with_reducible refine (spec_l1In.calls _ 1 80 true _ Q1.out).mono ?_); rintro e w' ⟨rfl, ⟨nd, rfl⟩⟩))
  go_loopg [4] l0.length (fun kq v3 w' => ∃ (j : Nat), v3 = .int .i64 (j : Int) ∧ Aside0 (j + kq = l0.length) ∧ Aside0 (scan7 l0.length (l0.drop j) = r) ∧ Drawn0 w w')
  case atStart => exact ⟨0, rfl, ⟨by omega⟩, ⟨HS.out⟩, by repeat (first | exact Drawn0.refl _ | apply Drawn0.step)⟩
  case round =>
    obtain ⟨j, rfl, HJ, HA, ⟨m1, rfl⟩⟩ := hrel
    by_cases hj : j < l0.length
    case neg =>
      have c0 : decide ((j : Int) < (l0.length : Int)) = false := decide_eq_false (by omega)
      have c1 : decide (j < l0.length) = false := decide_eq_false hj
      have HE := Aside0.mk hj
      clear hj
      go_wp2
      go_ret
      exact ⟨by rw [← HA.out, List.drop_eq_nil_of_le (by have := HE.out; omega)]; rfl, by repeat (first | exact Drawn0.refl _ | apply Drawn0.step)⟩
    have c0 : decide ((j : Int) < (l0.length : Int)) = true := decide_eq_true (by omega)
    have c1 : decide (j < l0.length) = true := decide_eq_true hj
    have p0 : 0 ≤ (j : Int) := by omega
    have p1 : (j : Int) < (l0.length : Int) := by omega
    obtain ⟨ad, e1, hat⟩ := at7 HR0.out j hj
    subst e1
    obtain ⟨i, hi⟩ : ∃ i, i = rd_T134 l0 j := ⟨_, rfl⟩
    have hd : l0.drop j = i :: l0.drop (j + 1) := by
      rw [List.drop_eq_getElem_cons hj, hi]
      congr 1
      simp [rd_T134, List.getD_eq_getElem?_getD, hj]
    have hsz : i.f1.f2.size ≤ 1048576 := by
      have hm : i ∈ l0 := List.mem_of_mem_drop (i := j) (by rw [hd]; exact List.mem_cons_self)
      simpa using List.all_eq_true.mp HZ.out i hm
    rw [← hi] at hat
    clear hi
    have ha := HA.out
    rw [hd, scan7] at ha
    clear HA hd
    have HAT := Aside0.mk hat
    have HN := Aside0.mk hj
    obtain ⟨K, hK⟩ := l5Set_ev i.f1.f2 hsz
    have hK := hK K (Nat.le_refl _)
    have HJ1 := Aside0.mk (show wrap64 ((j : Int) + 1) = (j : Int) + 1 from L.w64 (by omega) (by have := HL.out; omega))
    clear hsz hj
    obtain ⟨op, ⟨k, c, s, l, r7⟩, x, y⟩ := i
    obtain ⟨a0, a1, a2, a3, a4, a5, a6, a7⟩ := hat.eight
    clear hat
    simp only at hK
    have HK := Aside0.mk hK
    clear hK
    rcases qf : form7 ⟨op, ⟨k, c, s, l, r7⟩, x, y⟩ with _ | _
    · have F := Aside0.mk qf
      have HX := Aside0.mk (show (1 : Int) = r by simpa [bad7, qf] using ha)
      clear ha
      go_wp2_with (first | (go_at_call 134; (with_reducible refine (l7Form_q ⟨op, ⟨k, c, s, l, r7⟩, x, y⟩ false F.out _ _ ?side1).mono ?_); (case side1 => exact HAT.out); rintro e w' ⟨rfl, ⟨nd, rfl⟩⟩))
      go_ret
      exact ⟨by rw [← HX.out]; rfl, by repeat (first | exact Drawn0.refl _ | apply Drawn0.step)⟩
    have F := Aside0.mk qf
    by_cases o1 : op = 1
    case neg =>
      have eo : (op == 1) = false := beq_eq_false_iff_ne.mpr o1
      rcases qx : inb x 0 ((l0.length : Int) - 1) with _ | _
      · have QX := Aside0.mk ((inb_eq x 0 (wrap64 ((l0.length : Int) - 1))).trans (congrArg some (HW.out.symm ▸ qx)))
        have HX := Aside0.mk (show (3 : Int) = r by simpa [bad7, qf, o1, qx] using ha)
        clear ha
        go_wp2_with (first | (go_at_call 134; (with_reducible refine (l7Form_q ⟨op, ⟨k, c, s, l, r7⟩, x, y⟩ true F.out _ _ ?side1).mono ?_); (case side1 => exact HAT.out); rintro e w' ⟨rfl, ⟨nd, rfl⟩⟩) | (go_at_call 78; (with_reducible refine (spec_l1In.calls _ _ _ false _ ?side1).mono ?_); (case side1 => first | exact QX.out | (simp only [i64_w]; exact QX.out)); rintro e w' ⟨rfl, ⟨nd, rfl⟩⟩))
        go_ret
        exact ⟨by rw [← HX.out]; rfl, by repeat (first | exact Drawn0.refl _ | apply Drawn0.step)⟩
      have QX := Aside0.mk ((inb_eq x 0 (wrap64 ((l0.length : Int) - 1))).trans (congrArg some (HW.out.symm ▸ qx)))
      rcases qy : inb y 0 ((l0.length : Int) - 1) with _ | _
      · have QY := Aside0.mk ((inb_eq y 0 (wrap64 ((l0.length : Int) - 1))).trans (congrArg some (HW.out.symm ▸ qy)))
        have HX := Aside0.mk (show (3 : Int) = r by simpa [bad7, qf, o1, qx, qy] using ha)
        clear ha
        go_wp2_with (first | (go_at_call 134; (with_reducible refine (l7Form_q ⟨op, ⟨k, c, s, l, r7⟩, x, y⟩ true F.out _ _ ?side1).mono ?_); (case side1 => exact HAT.out); rintro e w' ⟨rfl, ⟨nd, rfl⟩⟩) | (go_at_call 78; (with_reducible refine (spec_l1In.calls _ _ _ true _ ?side1).mono ?_); (case side1 => first | exact QX.out | (simp only [i64_w]; exact QX.out)); rintro e w' ⟨rfl, ⟨nd, rfl⟩⟩) | (go_at_call 78; (with_reducible refine (spec_l1In.calls _ _ _ false _ ?side1).mono ?_); (case side1 => first | exact QY.out | (simp only [i64_w]; exact QY.out)); rintro e w' ⟨rfl, ⟨nd, rfl⟩⟩))
        go_ret
        exact ⟨by rw [← HX.out]; rfl, by repeat (first | exact Drawn0.refl _ | apply Drawn0.step)⟩
      · have QY := Aside0.mk ((inb_eq y 0 (wrap64 ((l0.length : Int) - 1))).trans (congrArg some (HW.out.symm ▸ qy)))
        have HX := Aside0.mk (show scan7 l0.length (l0.drop (j + 1)) = r by simpa [bad7, qf, o1, qx, qy] using ha)
        clear ha
        go_wp2_with (first | (go_at_call 134; (with_reducible refine (l7Form_q ⟨op, ⟨k, c, s, l, r7⟩, x, y⟩ true F.out _ _ ?side1).mono ?_); (case side1 => exact HAT.out); rintro e w' ⟨rfl, ⟨nd, rfl⟩⟩) | (go_at_call 78; (with_reducible refine (spec_l1In.calls _ _ _ true _ ?side1).mono ?_); (case side1 => first | exact QX.out | (simp only [i64_w]; exact QX.out)); rintro e w' ⟨rfl, ⟨nd, rfl⟩⟩) | (go_at_call 78; (with_reducible refine (spec_l1In.calls _ _ _ true _ ?side1).mono ?_); (case side1 => first | exact QY.out | (simp only [i64_w]; exact QY.out)); rintro e w' ⟨rfl, ⟨nd, rfl⟩⟩))
        go_roundg (gk - 1)
        case measure => have := HJ.out; have := HN.out; omega
        case rel => exact ⟨j + 1, by simp [HJ1.out], ⟨by have := HJ.out; have := HN.out; omega⟩, ⟨HX.out⟩, by repeat (first | exact Drawn0.refl _ | apply Drawn0.step)⟩
    subst o1
    by_cases k2 : k = 2
    · subst k2
      have H5 := Aside0.mk (show spec_l5Has.f 2 = some false from rfl)
      rcases qc : inb c 32 126 with _ | _
      · have QC := Aside0.mk ((inb_eq c 32 126).trans (congrArg some qc))
        have HX := Aside0.mk (show (3 : Int) = r by simpa [bad7, qf, qc] using ha)
        clear ha
        go_wp2_with (first | (go_at_call 134; (with_reducible refine (l7Form_q ⟨1, ⟨2, c, s, l, r7⟩, x, y⟩ true F.out _ _ ?side1).mono ?_); (case side1 => exact HAT.out); rintro e w' ⟨rfl, ⟨nd, rfl⟩⟩) | (go_at_call 78; (with_reducible refine (spec_l1In.calls _ _ _ false _ ?side1).mono ?_); (case side1 => first | exact QC.out | (simp only [i64_w]; exact QC.out)); rintro e w' ⟨rfl, ⟨nd, rfl⟩⟩))
        go_ret
        exact ⟨by rw [← HX.out]; rfl, by repeat (first | exact Drawn0.refl _ | apply Drawn0.step)⟩
      have QC := Aside0.mk ((inb_eq c 32 126).trans (congrArg some qc))
      rcases qx : inb x 0 ((l0.length : Int) - 1) with _ | _
      · have QX := Aside0.mk ((inb_eq x 0 (wrap64 ((l0.length : Int) - 1))).trans (congrArg some (HW.out.symm ▸ qx)))
        have HX := Aside0.mk (show (3 : Int) = r by simpa [bad7, qf, qc, hasB, qx] using ha)
        clear ha
        go_wp2_with (first | (go_at_call 134; (with_reducible refine (l7Form_q ⟨1, ⟨2, c, s, l, r7⟩, x, y⟩ true F.out _ _ ?side1).mono ?_); (case side1 => exact HAT.out); rintro e w' ⟨rfl, ⟨nd, rfl⟩⟩) | (go_at_call 78; (with_reducible refine (spec_l1In.calls _ _ _ true _ ?side1).mono ?_); (case side1 => first | exact QC.out | (simp only [i64_w]; exact QC.out)); rintro e w' ⟨rfl, ⟨nd, rfl⟩⟩) | (go_at_call 135; (with_reducible refine (spec_l5Has.calls _ false _ ?side1).mono ?_); (case side1 => exact H5.out); rintro e w' ⟨rfl, ⟨nd, rfl⟩⟩) | (go_at_call 78; (with_reducible refine (spec_l1In.calls _ _ _ false _ ?side1).mono ?_); (case side1 => first | exact QX.out | (simp only [i64_w]; exact QX.out)); rintro e w' ⟨rfl, ⟨nd, rfl⟩⟩))
        go_ret
        exact ⟨by rw [← HX.out]; rfl, by repeat (first | exact Drawn0.refl _ | apply Drawn0.step)⟩
      have QX := Aside0.mk ((inb_eq x 0 (wrap64 ((l0.length : Int) - 1))).trans (congrArg some (HW.out.symm ▸ qx)))
      rcases qy : inb y 0 ((l0.length : Int) - 1) with _ | _
      · have QY := Aside0.mk ((inb_eq y 0 (wrap64 ((l0.length : Int) - 1))).trans (congrArg some (HW.out.symm ▸ qy)))
        have HX := Aside0.mk (show (3 : Int) = r by simpa [bad7, qf, qc, hasB, qx, qy] using ha)
        clear ha
        go_wp2_with (first | (go_at_call 134; (with_reducible refine (l7Form_q ⟨1, ⟨2, c, s, l, r7⟩, x, y⟩ true F.out _ _ ?side1).mono ?_); (case side1 => exact HAT.out); rintro e w' ⟨rfl, ⟨nd, rfl⟩⟩) | (go_at_call 78; (with_reducible refine (spec_l1In.calls _ _ _ true _ ?side1).mono ?_); (case side1 => first | exact QC.out | (simp only [i64_w]; exact QC.out)); rintro e w' ⟨rfl, ⟨nd, rfl⟩⟩) | (go_at_call 135; (with_reducible refine (spec_l5Has.calls _ false _ ?side1).mono ?_); (case side1 => exact H5.out); rintro e w' ⟨rfl, ⟨nd, rfl⟩⟩) | (go_at_call 78; (with_reducible refine (spec_l1In.calls _ _ _ true _ ?side1).mono ?_); (case side1 => first | exact QX.out | (simp only [i64_w]; exact QX.out)); rintro e w' ⟨rfl, ⟨nd, rfl⟩⟩) | (go_at_call 78; (with_reducible refine (spec_l1In.calls _ _ _ false _ ?side1).mono ?_); (case side1 => first | exact QY.out | (simp only [i64_w]; exact QY.out)); rintro e w' ⟨rfl, ⟨nd, rfl⟩⟩))
        go_ret
        exact ⟨by rw [← HX.out]; rfl, by repeat (first | exact Drawn0.refl _ | apply Drawn0.step)⟩
      · have QY := Aside0.mk ((inb_eq y 0 (wrap64 ((l0.length : Int) - 1))).trans (congrArg some (HW.out.symm ▸ qy)))
        have HX := Aside0.mk (show scan7 l0.length (l0.drop (j + 1)) = r by simpa [bad7, qf, qc, hasB, qx, qy] using ha)
        clear ha
        go_wp2_with (first | (go_at_call 134; (with_reducible refine (l7Form_q ⟨1, ⟨2, c, s, l, r7⟩, x, y⟩ true F.out _ _ ?side1).mono ?_); (case side1 => exact HAT.out); rintro e w' ⟨rfl, ⟨nd, rfl⟩⟩) | (go_at_call 78; (with_reducible refine (spec_l1In.calls _ _ _ true _ ?side1).mono ?_); (case side1 => first | exact QC.out | (simp only [i64_w]; exact QC.out)); rintro e w' ⟨rfl, ⟨nd, rfl⟩⟩) | (go_at_call 135; (with_reducible refine (spec_l5Has.calls _ false _ ?side1).mono ?_); (case side1 => exact H5.out); rintro e w' ⟨rfl, ⟨nd, rfl⟩⟩) | (go_at_call 78; (with_reducible refine (spec_l1In.calls _ _ _ true _ ?side1).mono ?_); (case side1 => first | exact QX.out | (simp only [i64_w]; exact QX.out)); rintro e w' ⟨rfl, ⟨nd, rfl⟩⟩) | (go_at_call 78; (with_reducible refine (spec_l1In.calls _ _ _ true _ ?side1).mono ?_); (case side1 => first | exact QY.out | (simp only [i64_w]; exact QY.out)); rintro e w' ⟨rfl, ⟨nd, rfl⟩⟩))
        go_roundg (gk - 1)
        case measure => have := HJ.out; have := HN.out; omega
        case rel => exact ⟨j + 1, by simp [HJ1.out], ⟨by have := HJ.out; have := HN.out; omega⟩, ⟨HX.out⟩, by repeat (first | exact Drawn0.refl _ | apply Drawn0.step)⟩
    have ek : (k == 2) = false := beq_eq_false_iff_ne.mpr k2
    rcases qh : hasB k with _ | _
    · have H5 := Aside0.mk ((hasB_eq k).trans (congrArg some qh))
      rcases qx : inb x 0 ((l0.length : Int) - 1) with _ | _
      · have QX := Aside0.mk ((inb_eq x 0 (wrap64 ((l0.length : Int) - 1))).trans (congrArg some (HW.out.symm ▸ qx)))
        have HX := Aside0.mk (show (3 : Int) = r by simpa [bad7, qf, k2, qh, qx] using ha)
        clear ha
        go_wp2_with (first | (go_at_call 134; (with_reducible refine (l7Form_q ⟨1, ⟨k, c, s, l, r7⟩, x, y⟩ true F.out _ _ ?side1).mono ?_); (case side1 => exact HAT.out); rintro e w' ⟨rfl, ⟨nd, rfl⟩⟩) | (go_at_call 135; (with_reducible refine (spec_l5Has.calls _ false _ ?side1).mono ?_); (case side1 => exact H5.out); rintro e w' ⟨rfl, ⟨nd, rfl⟩⟩) | (go_at_call 78; (with_reducible refine (spec_l1In.calls _ _ _ false _ ?side1).mono ?_); (case side1 => first | exact QX.out | (simp only [i64_w]; exact QX.out)); rintro e w' ⟨rfl, ⟨nd, rfl⟩⟩))
        go_ret
        exact ⟨by rw [← HX.out]; rfl, by repeat (first | exact Drawn0.refl _ | apply Drawn0.step)⟩
      have QX := Aside0.mk ((inb_eq x 0 (wrap64 ((l0.length : Int) - 1))).trans (congrArg some (HW.out.symm ▸ qx)))
      rcases qy : inb y 0 ((l0.length : Int) - 1) with _ | _
      · have QY := Aside0.mk ((inb_eq y 0 (wrap64 ((l0.length : Int) - 1))).trans (congrArg some (HW.out.symm ▸ qy)))
        have HX := Aside0.mk (show (3 : Int) = r by simpa [bad7, qf, k2, qh, qx, qy] using ha)
        clear ha
        go_wp2_with (first | (go_at_call 134; (with_reducible refine (l7Form_q ⟨1, ⟨k, c, s, l, r7⟩, x, y⟩ true F.out _ _ ?side1).mono ?_); (case side1 => exact HAT.out); rintro e w' ⟨rfl, ⟨nd, rfl⟩⟩) | (go_at_call 135; (with_reducible refine (spec_l5Has.calls _ false _ ?side1).mono ?_); (case side1 => exact H5.out); rintro e w' ⟨rfl, ⟨nd, rfl⟩⟩) | (go_at_call 78; (with_reducible refine (spec_l1In.calls _ _ _ true _ ?side1).mono ?_); (case side1 => first | exact QX.out | (simp only [i64_w]; exact QX.out)); rintro e w' ⟨rfl, ⟨nd, rfl⟩⟩) | (go_at_call 78; (with_reducible refine (spec_l1In.calls _ _ _ false _ ?side1).mono ?_); (case side1 => first | exact QY.out | (simp only [i64_w]; exact QY.out)); rintro e w' ⟨rfl, ⟨nd, rfl⟩⟩))
        go_ret
        exact ⟨by rw [← HX.out]; rfl, by repeat (first | exact Drawn0.refl _ | apply Drawn0.step)⟩
      · have QY := Aside0.mk ((inb_eq y 0 (wrap64 ((l0.length : Int) - 1))).trans (congrArg some (HW.out.symm ▸ qy)))
        have HX := Aside0.mk (show scan7 l0.length (l0.drop (j + 1)) = r by simpa [bad7, qf, k2, qh, qx, qy] using ha)
        clear ha
        go_wp2_with (first | (go_at_call 134; (with_reducible refine (l7Form_q ⟨1, ⟨k, c, s, l, r7⟩, x, y⟩ true F.out _ _ ?side1).mono ?_); (case side1 => exact HAT.out); rintro e w' ⟨rfl, ⟨nd, rfl⟩⟩) | (go_at_call 135; (with_reducible refine (spec_l5Has.calls _ false _ ?side1).mono ?_); (case side1 => exact H5.out); rintro e w' ⟨rfl, ⟨nd, rfl⟩⟩) | (go_at_call 78; (with_reducible refine (spec_l1In.calls _ _ _ true _ ?side1).mono ?_); (case side1 => first | exact QX.out | (simp only [i64_w]; exact QX.out)); rintro e w' ⟨rfl, ⟨nd, rfl⟩⟩) | (go_at_call 78; (with_reducible refine (spec_l1In.calls _ _ _ true _ ?side1).mono ?_); (case side1 => first | exact QY.out | (simp only [i64_w]; exact QY.out)); rintro e w' ⟨rfl, ⟨nd, rfl⟩⟩))
        go_roundg (gk - 1)
        case measure => have := HJ.out; have := HN.out; omega
        case rel => exact ⟨j + 1, by simp [HJ1.out], ⟨by have := HJ.out; have := HN.out; omega⟩, ⟨HX.out⟩, by repeat (first | exact Drawn0.refl _ | apply Drawn0.step)⟩
    have H5 := Aside0.mk ((hasB_eq k).trans (congrArg some qh))
    rcases qs : setOk s with _ | _
    · have HK5 := Aside0.mk (HK.out.trans (congrArg some qs))
      have HX := Aside0.mk (show (3 : Int) = r by simpa [bad7, qf, k2, qh, qs] using ha)
      clear ha
      go_wp2_with (first | (go_at_call 134; (with_reducible refine (l7Form_q ⟨1, ⟨k, c, s, l, r7⟩, x, y⟩ true F.out _ _ ?side1).mono ?_); (case side1 => exact HAT.out); rintro e w' ⟨rfl, ⟨nd, rfl⟩⟩) | (go_at_call 135; (with_reducible refine (spec_l5Has.calls _ true _ ?side1).mono ?_); (case side1 => exact H5.out); rintro e w' ⟨rfl, ⟨nd, rfl⟩⟩) | (go_at_call 136; (with_reducible refine (spec_l5Set.calls K s false _ ?side1).mono ?_); (case side1 => exact HK5.out); rintro e w' ⟨rfl, ⟨nd, rfl⟩⟩))
      go_ret
      exact ⟨by rw [← HX.out]; rfl, by repeat (first | exact Drawn0.refl _ | apply Drawn0.step)⟩
    have HK5 := Aside0.mk (HK.out.trans (congrArg some qs))
    rcases qx : inb x 0 ((l0.length : Int) - 1) with _ | _
    · have QX := Aside0.mk ((inb_eq x 0 (wrap64 ((l0.length : Int) - 1))).trans (congrArg some (HW.out.symm ▸ qx)))
      have HX := Aside0.mk (show (3 : Int) = r by simpa [bad7, qf, k2, qh, qs, qx] using ha)
      clear ha
      go_wp2_with (first | (go_at_call 134; (with_reducible refine (l7Form_q ⟨1, ⟨k, c, s, l, r7⟩, x, y⟩ true F.out _ _ ?side1).mono ?_); (case side1 => exact HAT.out); rintro e w' ⟨rfl, ⟨nd, rfl⟩⟩) | (go_at_call 135; (with_reducible refine (spec_l5Has.calls _ true _ ?side1).mono ?_); (case side1 => exact H5.out); rintro e w' ⟨rfl, ⟨nd, rfl⟩⟩) | (go_at_call 136; (with_reducible refine (spec_l5Set.calls K s true _ ?side1).mono ?_); (case side1 => exact HK5.out); rintro e w' ⟨rfl, ⟨nd, rfl⟩⟩) | (go_at_call 78; (with_reducible refine (spec_l1In.calls _ _ _ false _ ?side1).mono ?_); (case side1 => first | exact QX.out | (simp only [i64_w]; exact QX.out)); rintro e w' ⟨rfl, ⟨nd, rfl⟩⟩))
      go_ret
      exact ⟨by rw [← HX.out]; rfl, by repeat (first | exact Drawn0.refl _ | apply Drawn0.step)⟩
    have QX := Aside0.mk ((inb_eq x 0 (wrap64 ((l0.length : Int) - 1))).trans (congrArg some (HW.out.symm ▸ qx)))
    rcases qy : inb y 0 ((l0.length : Int) - 1) with _ | _
    · have QY := Aside0.mk ((inb_eq y 0 (wrap64 ((l0.length : Int) - 1))).trans (congrArg some (HW.out.symm ▸ qy)))
      have HX := Aside0.mk (show (3 : Int) = r by simpa [bad7, qf, k2, qh, qs, qx, qy] using ha)
      clear ha
      go_wp2_with (first | (go_at_call 134; (with_reducible refine (l7Form_q ⟨1, ⟨k, c, s, l, r7⟩, x, y⟩ true F.out _ _ ?side1).mono ?_); (case side1 => exact HAT.out); rintro e w' ⟨rfl, ⟨nd, rfl⟩⟩) | (go_at_call 135; (with_reducible refine (spec_l5Has.calls _ true _ ?side1).mono ?_); (case side1 => exact H5.out); rintro e w' ⟨rfl, ⟨nd, rfl⟩⟩) | (go_at_call 136; (with_reducible refine (spec_l5Set.calls K s true _ ?side1).mono ?_); (case side1 => exact HK5.out); rintro e w' ⟨rfl, ⟨nd, rfl⟩⟩) | (go_at_call 78; (with_reducible refine (spec_l1In.calls _ _ _ true _ ?side1).mono ?_); (case side1 => first | exact QX.out | (simp only [i64_w]; exact QX.out)); rintro e w' ⟨rfl, ⟨nd, rfl⟩⟩) | (go_at_call 78; (with_reducible refine (spec_l1In.calls _ _ _ false _ ?side1).mono ?_); (case side1 => first | exact QY.out | (simp only [i64_w]; exact QY.out)); rintro e w' ⟨rfl, ⟨nd, rfl⟩⟩))
      go_ret
      exact ⟨by rw [← HX.out]; rfl, by repeat (first | exact Drawn0.refl _ | apply Drawn0.step)⟩
    · have QY := Aside0.mk ((inb_eq y 0 (wrap64 ((l0.length : Int) - 1))).trans (congrArg some (HW.out.symm ▸ qy)))
      have HX := Aside0.mk (show scan7 l0.length (l0.drop (j + 1)) = r by simpa [bad7, qf, k2, qh, qs, qx, qy] using ha)
      clear ha
      go_wp2_with (first | (go_at_call 134; (with_reducible refine (l7Form_q ⟨1, ⟨k, c, s, l, r7⟩, x, y⟩ true F.out _ _ ?side1).mono ?_); (case side1 => exact HAT.out); rintro e w' ⟨rfl, ⟨nd, rfl⟩⟩) | (go_at_call 135; (with_reducible refine (spec_l5Has.calls _ true _ ?side1).mono ?_); (case side1 => exact H5.out); rintro e w' ⟨rfl, ⟨nd, rfl⟩⟩) | (go_at_call 136; (with_reducible refine (spec_l5Set.calls K s true _ ?side1).mono ?_); (case side1 => exact HK5.out); rintro e w' ⟨rfl, ⟨nd, rfl⟩⟩) | (go_at_call 78; (with_reducible refine (spec_l1In.calls _ _ _ true _ ?side1).mono ?_); (case side1 => first | exact QX.out | (simp only [i64_w]; exact QX.out)); rintro e w' ⟨rfl, ⟨nd, rfl⟩⟩) | (go_at_call 78; (with_reducible refine (spec_l1In.calls _ _ _ true _ ?side1).mono ?_); (case side1 => first | exact QY.out | (simp only [i64_w]; exact QY.out)); rintro e w' ⟨rfl, ⟨nd, rfl⟩⟩))
      go_roundg (gk - 1)
      case measure => have := HJ.out; have := HN.out; omega
      case rel => exact ⟨j + 1, by simp [HJ1.out], ⟨by have := HJ.out; have := HN.out; omega⟩, ⟨HX.out⟩, by repeat (first | exact Drawn0.refl _ | apply Drawn0.step)⟩

end Go.Proofs.Ytjnmhpldabbeiaa.Q
end
section
namespace Go.Proofs.Ytjnmhpldabbeiaa.Q
open Go.RowKit Go.Proofs.YtjnmhpldabbeiaaW.PrintWords Go.Proofs.YtjnmhpldabbeiaaW.PrintLast Go.Proofs.YtjnmhpldabbeiaaW.PrintMore
attribute [local go_sem] max2_int min2_int max_two min_two max_three min_three max_four min_four   -- for this text's walks alone
set_option linter.unusedVariables false
set_option linter.unusedSimpArgs false

/-! ### spec_ProgFault: function 40 -/
def spec_ProgFault.f (l0 : List (S134)) : Option (Int) := (spec_l7Fault.f l0).bind fun t101 => (some t101)
set_option maxHeartbeats 8000000 in
set_option maxRecDepth 100000 in
theorem spec_ProgFault.calls (A0 : Option Addr) (c0 : Nat) (l0 : List (S134)) (r : Int) (w : World) (hr0 : Kd.C k134 w A0 l0.length l0) (hc0 : l0.length ≤ c0) (h : spec_ProgFault.f l0 = some r) :
    Calls Try.prog 40 #[.slice A0 l0.length c0] w fun e w' => e = .returned (.int .i64 r) ∧ Drawn0 w w' := by
  have HR0 := Aside0.mk hr0
  have HC0 := Aside0.mk hc0
  clear hr0 hc0
  have H : ((spec_l7Fault.f l0).bind fun t101 => (some t101)) = some r := h
  clear h
  replace H := Option.bind_eq_some_iff.mp H
  obtain ⟨t101, A20, H⟩ := H
  replace H : (some t101) = some r := H
  have A2 := Aside0.mk A20
  clear A20
  obtain rfl := Option.some.inj H
  go_enter Try.func40, Try.ntmps40
  go_wp2_with (first | ((with_reducible refine gate_callee (f := 90) rfl ?_); refine goesL_ (some 4) rfl rfl Try.func90 (by kernel_rfl) rfl #[.slice A0 l0.length c0] rfl (by (try simp only [List.map_toArray, List.map_cons, List.map_nil]); first | done | rfl | (simp only [List.length_drop, List.length_take]; rfl)) ?_; (with_reducible refine (spec_l7Fault.calls _ _ l0 t101 _ ?side1 ?side2 A2.out).mono ?_); (case side1 => repeat (first | exact HR0.out | (with_reducible refine Kd.C_alloc ?_ _) | (with_reducible refine Kd.C_drewN ?_ _) | (with_reducible refine Kd.C_drew ?_))); (case side2 => exact HC0.out); rintro e w' ⟨rfl, ⟨nd, rfl⟩⟩; refine ⟨_, rfl, ?_⟩))
  go_ret
  exact ⟨by first | rfl | (simp; done) | (simp [*]; done), by repeat (first | exact Drawn0.refl _ | apply Drawn0.step)⟩

end Go.Proofs.Ytjnmhpldabbeiaa.Q
end
section
namespace Go.Proofs.Ytjnmhpldabbeiaa.Q
open Go.RowKit Go.Proofs.YtjnmhpldabbeiaaW.PrintWords Go.Proofs.YtjnmhpldabbeiaaW.PrintLast Go.Proofs.YtjnmhpldabbeiaaW.PrintMore Go.Proofs.Ytjnmhpldabbeiaa.L
theorem byteK_eq (k : Int) : impl_isByteKind.f k = some (inb k 2 5) := by unfold impl_isByteKind.f; rw [iin_eq]; rfl
def inst7 (n : Int) (i : S134) : Int := if form7 i = true then (if bad7 n i = true then 3 else 0) else 1
/-- A bad node of a kind that stands for a byte is out of range only; of another kind nothing is. -/
theorem badN_kind (n : S132) (h : inb n.f0 2 5 = false) : badN n = false := by
  have h2 : n.f0 ≠ 2 := by intro e; rw [e] at h; exact absurd h (by decide)
  have h4 : n.f0 ≠ 4 := by intro e; rw [e] at h; exact absurd h (by decide)
  have h5 : n.f0 ≠ 5 := by intro e; rw [e] at h; exact absurd h (by decide)
  simp [badN, hasB, h2, h4, h5]
theorem instFault_ev (m : Int) (hm : 1 ≤ m ∧ m ≤ 80) (i : S134) (hs : i.f1.f2.size ≤ 1048576) : Ev (fun k => impl_instFault.f k i.f0 i.f1.f0 i.f1.f1 i.f1.f2 i.f1.f3 i.f1.f4 i.f2 i.f3 m) (inst7 m i) := by
  obtain ⟨K, hK⟩ := nodeFault_ev i.f1 hs
  obtain ⟨op, ⟨k, c, s, l, r⟩, x, y⟩ := i
  refine ⟨K + 2, fun q hq => ?_⟩
  obtain ⟨q, rfl⟩ : ∃ p, q = p + 2 := ⟨q - 2, by omega⟩
  have hnode : impl_nodeFault.f (q + 1) k c s l r = some (nodeC ⟨k, c, s, l, r⟩) := hK (q + 1) (by omega)
  have hbk := badN_kind ⟨k, c, s, l, r⟩
  have hz1 : inb 0 0 (m - 1) = true := decide_eq_true ⟨by omega, by omega⟩
  simp only at hbk
  have hb7 : bad7 m ⟨op, ⟨k, c, s, l, r⟩, x, y⟩ = ((op == 1 && badN ⟨k, c, s, l, r⟩) || (!inb x 0 (m - 1) || !inb y 0 (m - 1))) := rfl
  simp only [impl_instFault.f, impl_instFault.j0, impl_instFault.j1, iin_eq, byteK_eq, hnode, Option.bind_some, w64 (x := m - 1) (by omega) (by omega), inst7, form7, hb7, nodeC, nodeZ]
  by_cases e1 : inb op 1 6 = true
  case neg => simp [e1]
  by_cases o1 : op = 1
  · subst o1
    by_cases y0 : y = 0
    · subst y0
      by_cases hf : formB ⟨k, c, s, l, r⟩ = true <;> by_cases hb : badN ⟨k, c, s, l, r⟩ = true <;> by_cases hk : inb k 2 5 = true <;> by_cases hx : inb x 0 (m - 1) = true <;> simp_all
    · simp [e1, y0]
  · by_cases hZ : (!(k == 0) || (!(c == 0) || (!(s.toList == ([] : List UInt8)) || (!(l == 0) || (!(r == 0)))))) = true
    · simp only [hZ]
      simp [e1, o1]
    · have hZ' := Bool.eq_false_iff.mpr hZ
      simp only [hZ']
      by_cases o2 : op = 2
      · subst o2
        by_cases hx : inb x 0 (m - 1) = true <;> by_cases hy : inb y 0 (m - 1) = true <;> simp [e1, hx, hy]
      · by_cases o6 : op = 6
        · subst o6
          by_cases x0 : x = 0 <;> by_cases y0 : y = 0 <;> simp [e1, x0, y0, hz1]
        · by_cases y0 : y = 0 <;> by_cases hx : inb x 0 (m - 1) = true <;> simp [e1, o1, o2, o6, y0, hx, hz1]
theorem scan_ev (l : List S134) (hm : 1 ≤ l.length ∧ l.length ≤ 80) (hs : ∀ i ∈ l, i.f1.f2.size ≤ 1048576) : ∀ (d i : Nat), l.length - i = d → i ≤ l.length → Ev (fun k => impl_ProgFault.l0 k l l (l.length : Int) (i : Int)) (scan7 l.length (l.drop i)) := by
  intro d
  induction d with
  | zero =>
    intro i hd hi
    refine Ev.succ ?_
    simp only [impl_ProgFault.l0]
    rw [List.drop_eq_nil_of_le (by omega)]
    exact Ev.neg (by omega) (Ev.now _)
  | succ d ih =>
    intro i hd hi
    have IH := ih (i + 1) (by omega) (by omega)
    have hlt : i < l.length := by omega
    clear ih
    refine Ev.succ ?_
    have w2 : wrap64 ((i : Int) + 1) = ((i + 1 : Nat) : Int) := w64 (by omega) (by omega)
    rw [List.drop_eq_getElem_cons hlt, scan7]
    simp only [impl_ProgFault.l0, w2, rd_inst l i hlt]
    refine Ev.pos (by omega) (Ev.pos (by omega) (Ev.pos (by omega) ?_))
    refine Ev.bind (instFault_ev l.length ⟨by omega, by omega⟩ l[i] (hs _ (List.getElem_mem hlt))) ?_
    unfold inst7
    by_cases hf : form7 l[i] = true
    · rw [if_pos hf, if_pos hf]
      by_cases hb : bad7 l.length l[i] = true
      · rw [if_pos hb, if_pos hb]
        exact Ev.neg (by decide) (Ev.now _)
      · rw [if_neg hb, if_neg hb]
        exact Ev.pos rfl IH
    · rw [if_neg hf, if_neg hf]
      exact Ev.neg (by decide) (Ev.now _)
theorem i_prog (l : List S134) (hs : ∀ i ∈ l, i.f1.f2.size ≤ 1048576) : Ev (fun k => impl_ProgFault.f k l) (prog7 l) := by
  unfold impl_ProgFault.f prog7
  refine Ev.bind0 (iin_eq _ _ _) ?_
  by_cases h : inb (l.length : Int) 1 80 = true
  · rw [if_pos h]
    have h2 : 1 ≤ (l.length : Int) ∧ (l.length : Int) ≤ 80 := by simpa [inb] using h
    exact Ev.pos h (scan_ev l ⟨by omega, by omega⟩ hs l.length 0 rfl (by omega))
  · rw [if_neg h]
    exact Ev.neg h (Ev.now _)
theorem s_prog (l : List S134) (hs : ∀ i ∈ l, i.f1.f2.size ≤ 1048576) : spec_ProgFault.f l = some (prog7 l) := by
  unfold spec_ProgFault.f spec_l7Fault.f
  rw [if_pos (show small7 l = true from List.all_eq_true.mpr fun i hi => decide_eq_true (hs i hi))]
  rfl
end Go.Proofs.Ytjnmhpldabbeiaa.Q
end
section
namespace Go.Proofs.Ytjnmhpldabbeiaa.Q
open Go.RowKit Go.Proofs.YtjnmhpldabbeiaaW.PrintWords Go.Proofs.YtjnmhpldabbeiaaW.PrintLast Go.Proofs.YtjnmhpldabbeiaaW.PrintMore Go.Proofs.Ytjnmhpldabbeiaa.L
theorem laws_toInt64S.ev (l : List Int) (h : l.length ≤ 1048576) : Ev (fun k => laws_toInt64S.f k l) l := by
  unfold laws_toInt64S.f
  refine Ev.pos (by omega) (Ev.pos (by omega) ?_)
  simp only [Int.toNat_natCast]
  refine copy_all (fun k ys i => laws_toInt64S.l0 k l ys i) l 0 (fun k ys i h hl => ?_) (fun k ys => ?_)
  · simp only [laws_toInt64S.l0]
    rw [if_pos (by omega), if_pos (by omega), if_pos (by omega), Int.toNat_natCast, rd_nat _ _ h, w64 (by omega) (by omega)]
    rfl
  · simp only [laws_toInt64S.l0]
    rw [if_neg (by omega)]
theorem laws_eqInt64S.ev (l : List Int) (h : l.length ≤ 1073741824) : Ev (fun k => laws_eqInt64S.f k l l) true := by
  unfold laws_eqInt64S.f
  refine Ev.pos rfl ?_
  refine all_all (fun k i => laws_eqInt64S.l0 k l l i) l.length true (fun k i h => ?_) (fun k => ?_)
  · simp only [laws_eqInt64S.l0]
    rw [if_pos (by omega), if_pos (by omega), if_pos (by omega), if_pos trivial, w64 (by omega) (by omega)]
    rfl
  · simp only [laws_eqInt64S.l0]
    rw [if_neg (by omega)]
def mkI64 (_ : Int) (q : Int) : Int := q
theorem laws_markInt64S.ev (l : List Int) (h : l.length ≤ 1073741824) (m : Int) (h0 : 0 ≤ m) (hm : m ≤ 1152921504606846976) : Ev (fun k => laws_markInt64S.f k l m) (m + 1 * l.length, marked mkI64 1 m l) := by
  unfold laws_markInt64S.f
  refine mark_all (fun k ys q i => laws_markInt64S.l0 k ys q i) _ 1 (by decide) (by decide) l m h0 (by omega) (fun k ys i q h hl hy q0 q1 => ?_) (fun k ys q hl => ?_)
  · simp only [laws_markInt64S.l0]
    rw [if_pos (by omega), if_pos (by omega), Int.toNat_natCast, w64 (by omega) (by omega), w64 (by omega) (by omega)]
    rfl
  · simp only [laws_markInt64S.l0]
    rw [if_neg (by omega)]
theorem laws_heldInt64S.ev (l : List Int) (h : l.length ≤ 1073741824) (m : Int) (h0 : 0 ≤ m) (hm : m ≤ 1152921504606846976) : Ev (fun k => laws_heldInt64S.f k (marked mkI64 1 m l) m) (m + 1 * l.length) := by
  unfold laws_heldInt64S.f
  have hM := marked_length mkI64 1 m l
  refine held_all (fun k q i => laws_heldInt64S.l0 k (marked mkI64 1 m l) q i) 1 (by decide) l.length m h0 (by omega) (fun k i h q0 q1 => ?_) (fun k q => ?_)
  · simp only [laws_heldInt64S.l0]
    rw [if_pos (by omega), if_pos (by omega), rd_nat _ i (by omega), marked_get mkI64 1 m l i h, w64 (x := m + 1 * (i : Int) + 1) (by omega) (by omega), w64 (x := (i : Int) + 1) (by omega) (by omega)]
    simp [mkI64]
  · simp only [laws_heldInt64S.l0]
    rw [if_neg (by omega)]
theorem laws_eqIntsResult.ev (a : Int) (l : List Int) (h : l.length ≤ 1073741824) : Ev (fun k => laws_eqIntsResult.f k a l a l) true := by
  unfold laws_eqIntsResult.f
  exact Ev.pos rfl (Ev.bind (laws_eqInt64S.ev l h) (Ev.now _))
theorem laws_markIntsResult.ev (a : Int) (l : List Int) (h : l.length ≤ 1073741824) (m : Int) (h0 : 0 ≤ m) (hm : m ≤ 1152921504606846976) : Ev (fun k => laws_markIntsResult.f k a l m) (m + 1 * l.length, marked mkI64 1 m l) := by
  unfold laws_markIntsResult.f
  exact Ev.bind (laws_markInt64S.ev l h m h0 hm) (Ev.now _)
theorem laws_heldIntsResult.ev (a : Int) (l : List Int) (h : l.length ≤ 1073741824) (m : Int) (h0 : 0 ≤ m) (hm : m ≤ 1152921504606846976) : Ev (fun k => laws_heldIntsResult.f k a (marked mkI64 1 m l) m) (m + 1 * l.length) := by
  unfold laws_heldIntsResult.f
  exact Ev.bind (laws_heldInt64S.ev l h m h0 hm) (Ev.neg (by omega) (Ev.now _))
end Go.Proofs.Ytjnmhpldabbeiaa.Q
end
section
namespace Go.Proofs.Ytjnmhpldabbeiaa.Q
open Go.RowKit Go.Proofs.YtjnmhpldabbeiaaW.PrintWords Go.Proofs.YtjnmhpldabbeiaaW.PrintLast Go.Proofs.YtjnmhpldabbeiaaW.PrintMore
attribute [local go_sem] max2_int min2_int max_two min_two max_three min_three max_four min_four   -- for this text's walks alone
set_option linter.unusedVariables false
set_option linter.unusedSimpArgs false

/-! ### spec_l7Set: function 94 -/
def spec_l7Set.l0 : Nat → List (S134) → List Int → Int → Option (Int)
  | 0, _, _, _ => none
  | k + 1, x0, x1, x6 => if x6 < (x1.length : Int) then (if 0 ≤ x6 then ((spec_l1In.f (rd x1 x6) 0 (wrap64 ((x0.length : Int) - 1))).bind fun t103 => (if t103 = true then (if x6 > 0 then (if 0 ≤ (wrap64 (x6 - 1)) then (if (wrap64 (x6 - 1)) < (x1.length : Int) then (if (rd x1 x6) ≤ (rd x1 (wrap64 (x6 - 1))) then (some 3) else (spec_l7Set.l0 k x0 x1 (wrap64 (x6 + 1)))) else (none)) else (none)) else (spec_l7Set.l0 k x0 x1 (wrap64 (x6 + 1)))) else (some 3))) else (none)) else (some 0)
def spec_l7Set.f (k : Nat) (l0 : List (S134)) (l1 : List Int) : Option (Int) := (spec_l7Fault.f l0).bind fun t101 => (if t101 = 0 then (if (l1.length : Int) > 80 then (some 2) else (spec_l7Set.l0 k l0 l1 0)) else (some t101))
theorem spec_l7Set.mono_l : ∀ k, (∀ y0 y1 y2, LeO (spec_l7Set.l0 k y0 y1 y2) (spec_l7Set.l0 (k + 1) y0 y1 y2))
  | 0 => fun _ _ _ r h => by simp [spec_l7Set.l0] at h
  | k + 1 => by
    have ih0 := spec_l7Set.mono_l k
    · intro y0 y1 y2
      unfold spec_l7Set.l0
      repeat' first
      | (with_reducible exact ih0 _ _ _)
      | (with_reducible exact LeO.refl _)
      | (with_reducible exact LeO.none _)
      | (with_reducible refine LeO.ite ?_ ?_)
      | (with_reducible refine LeO.bind ?_ (fun _ => ?_))
      | exact ih0 _ _ _
      | exact LeO.none _
      | refine LeO.ite ?_ ?_
      | refine LeO.bind ?_ (fun _ => ?_)
theorem spec_l7Set.mono : ∀ a0 a1 k, LeO (spec_l7Set.f k a0 a1) (spec_l7Set.f (k + 1) a0 a1) := by
  intro a0 a1 k
  have ih0 := spec_l7Set.mono_l k
  unfold spec_l7Set.f
  repeat' first
      | (with_reducible exact ih0 _ _ _)
      | (with_reducible exact LeO.refl _)
      | (with_reducible exact LeO.none _)
      | (with_reducible refine LeO.ite ?_ ?_)
      | (with_reducible refine LeO.bind ?_ (fun _ => ?_))
      | exact ih0 _ _ _
      | exact LeO.none _
      | refine LeO.ite ?_ ?_
      | refine LeO.bind ?_ (fun _ => ?_)
set_option maxHeartbeats 8000000 in
set_option maxRecDepth 100000 in
theorem spec_l7Set.calls (k : Nat) (A0 : Option Addr) (c0 : Nat) (l0 : List (S134)) (A1 : Option Addr) (c1 : Nat) (l1 : List Int) (r : Int) (w : World) (hr0 : Kd.C k134 w A0 l0.length l0) (hc0 : l0.length ≤ c0) (hr1 : Kd.C (Kd.int .i64) w A1 l1.length l1) (hc1 : l1.length ≤ c1) (h : spec_l7Set.f k l0 l1 = some r) :
    Calls Try.prog 94 #[.slice A0 l0.length c0, .slice A1 l1.length c1] w fun e w' => e = .returned (.int .i64 r) ∧ Drawn0 w w' := by
  have HR0 := Aside0.mk hr0
  have HC0 := Aside0.mk hc0
  clear hr0 hc0
  have HR1 := Aside0.mk hr1
  have HC1 := Aside0.mk hc1
  clear hr1 hc1
  have H : ((spec_l7Fault.f l0).bind fun t101 => (if t101 = 0 then (if (l1.length : Int) > 80 then (some 2) else (spec_l7Set.l0 k l0 l1 0)) else (some t101))) = some r := h
  clear h
  replace H := Option.bind_eq_some_iff.mp H
  obtain ⟨t101, A30, H⟩ := H
  replace H : (if t101 = 0 then (if (l1.length : Int) > 80 then (some 2) else (spec_l7Set.l0 k l0 l1 0)) else (some t101)) = some r := H
  have A3 := Aside0.mk A30
  clear A30
  by_cases c4 : t101 = 0
  · rw [if_pos c4] at H
    have c4b0 : (t101 == 0) = true := beq_iff_eq.mpr c4
    have c4b1 : (t101 != 0) = false := bne_eq_false_iff_eq.mpr c4
    clear c4
    by_cases c5 : (l1.length : Int) > 80
    · rw [if_pos c5] at H
      have c5b0 : decide (80 < (l1.length : Int)) = true := decide_eq_true c5
      have c5b1 : decide (80 < l1.length) = true := decide_eq_true (by omega)
      clear c5
      obtain rfl := Option.some.inj H
      go_enter Try.func94, Try.ntmps94
      go_wp2_with (first | (go_at_call 90; (with_reducible refine (spec_l7Fault.calls _ _ l0 t101 _ ?side1 ?side2 A3.out).mono ?_); (case side1 => repeat (first | exact HR0.out | (with_reducible refine Kd.C_alloc ?_ _) | (with_reducible refine Kd.C_drewN ?_ _) | (with_reducible refine Kd.C_drew ?_))); (case side2 => exact HC0.out); rintro e w' ⟨rfl, ⟨nd, rfl⟩⟩; (try first | exact ⟨rfl, _, World.drewN_drewN _ _ _⟩ | exact ⟨rfl, _, Eq.trans (World.drewN_drewN _ _ _) (congrArg (World.drewN _) (Nat.add_assoc _ _ _))⟩)))
      repeat (go_quiet (first | (go_at_call 90; (with_reducible refine (spec_l7Fault.calls _ _ l0 t101 _ ?side1 ?side2 A3.out).mono ?_); (case side1 => repeat (first | exact HR0.out | (with_reducible refine Kd.C_alloc ?_ _) | (with_reducible refine Kd.C_drewN ?_ _) | (with_reducible refine Kd.C_drew ?_))); (case side2 => exact HC0.out); rintro e w' ⟨rfl, ⟨nd, rfl⟩⟩; (try first | exact ⟨rfl, _, World.drewN_drewN _ _ _⟩ | exact ⟨rfl, _, Eq.trans (World.drewN_drewN _ _ _) (congrArg (World.drewN _) (Nat.add_assoc _ _ _))⟩))); try go_wp2_with (first | (go_at_call 90; (with_reducible refine (spec_l7Fault.calls _ _ l0 t101 _ ?side1 ?side2 A3.out).mono ?_); (case side1 => repeat (first | exact HR0.out | (with_reducible refine Kd.C_alloc ?_ _) | (with_reducible refine Kd.C_drewN ?_ _) | (with_reducible refine Kd.C_drew ?_))); (case side2 => exact HC0.out); rintro e w' ⟨rfl, ⟨nd, rfl⟩⟩; (try first | exact ⟨rfl, _, World.drewN_drewN _ _ _⟩ | exact ⟨rfl, _, Eq.trans (World.drewN_drewN _ _ _) (congrArg (World.drewN _) (Nat.add_assoc _ _ _))⟩))))
      go_ret
      exact ⟨by first | rfl | (simp; done) | (simp [*]; done), by repeat (first | exact Drawn0.refl _ | apply Drawn0.step)⟩
    · rw [if_neg c5] at H
      have c5b0 : decide (80 < (l1.length : Int)) = false := decide_eq_false c5
      have c5b1 : decide (80 < l1.length) = false := decide_eq_false (by omega)
      clear c5
      have H' := Aside0.mk H
      clear H
      go_enter Try.func94, Try.ntmps94
      go_wp2_with (first | (go_at_call 90; (with_reducible refine (spec_l7Fault.calls _ _ l0 t101 _ ?side1 ?side2 A3.out).mono ?_); (case side1 => repeat (first | exact HR0.out | (with_reducible refine Kd.C_alloc ?_ _) | (with_reducible refine Kd.C_drewN ?_ _) | (with_reducible refine Kd.C_drew ?_))); (case side2 => exact HC0.out); rintro e w' ⟨rfl, ⟨nd, rfl⟩⟩; (try first | exact ⟨rfl, _, World.drewN_drewN _ _ _⟩ | exact ⟨rfl, _, Eq.trans (World.drewN_drewN _ _ _) (congrArg (World.drewN _) (Nat.add_assoc _ _ _))⟩)))
      repeat (go_quiet (first | (go_at_call 90; (with_reducible refine (spec_l7Fault.calls _ _ l0 t101 _ ?side1 ?side2 A3.out).mono ?_); (case side1 => repeat (first | exact HR0.out | (with_reducible refine Kd.C_alloc ?_ _) | (with_reducible refine Kd.C_drewN ?_ _) | (with_reducible refine Kd.C_drew ?_))); (case side2 => exact HC0.out); rintro e w' ⟨rfl, ⟨nd, rfl⟩⟩; (try first | exact ⟨rfl, _, World.drewN_drewN _ _ _⟩ | exact ⟨rfl, _, Eq.trans (World.drewN_drewN _ _ _) (congrArg (World.drewN _) (Nat.add_assoc _ _ _))⟩))); try go_wp2_with (first | (go_at_call 90; (with_reducible refine (spec_l7Fault.calls _ _ l0 t101 _ ?side1 ?side2 A3.out).mono ?_); (case side1 => repeat (first | exact HR0.out | (with_reducible refine Kd.C_alloc ?_ _) | (with_reducible refine Kd.C_drewN ?_ _) | (with_reducible refine Kd.C_drew ?_))); (case side2 => exact HC0.out); rintro e w' ⟨rfl, ⟨nd, rfl⟩⟩; (try first | exact ⟨rfl, _, World.drewN_drewN _ _ _⟩ | exact ⟨rfl, _, Eq.trans (World.drewN_drewN _ _ _) (congrArg (World.drewN _) (Nat.add_assoc _ _ _))⟩))))
      go_loopg [6] k (fun kq v6 w' => ∃ (x6_1 : Int), v6 = .int .i64 x6_1 ∧ Aside0 (spec_l7Set.l0 kq l0 l1 x6_1 = some r) ∧ Aside0 (kq ≤ k) ∧ Drawn0 w w')
      case atStart => exact ⟨(0), (by first | rfl | (simp; done) | (simp [*]; done)), H', ⟨Nat.le_refl _⟩, by repeat (first | exact Drawn0.refl _ | apply Drawn0.step)⟩
      case round =>
        clear H'
        try clear c1
        try clear p2
        try clear c4
        try clear c4b0
        try clear c4b1
        try clear c5
        try clear c5b0
        try clear c5b1
        obtain ⟨x6_1, rfl, HA, HK1, ⟨m1, rfl⟩⟩ := hrel
        cases gk with
        | zero => exact absurd HA.out (by simp [spec_l7Set.l0])
        | succ k1 =>
          have H := HA.out
          clear HA
          simp only [spec_l7Set.l0] at H
          by_cases c6 : x6_1 < (l1.length : Int)
          · rw [if_pos c6] at H
            have c6b0 : decide (x6_1 < (l1.length : Int)) = true := decide_eq_true c6
            clear c6
            by_cases c7 : 0 ≤ x6_1
            · rw [if_pos c7] at H
              have c7b0 : decide (0 ≤ x6_1) = true := decide_eq_true c7
              clear c7
              replace H := Option.bind_eq_some_iff.mp H
              obtain ⟨t103, A80, H⟩ := H
              replace H : (if t103 = true then (if x6_1 > 0 then (if 0 ≤ (wrap64 (x6_1 - 1)) then (if (wrap64 (x6_1 - 1)) < (l1.length : Int) then (if (rd l1 x6_1) ≤ (rd l1 (wrap64 (x6_1 - 1))) then (some 3) else (spec_l7Set.l0 k1 l0 l1 (wrap64 (x6_1 + 1)))) else (none)) else (none)) else (spec_l7Set.l0 k1 l0 l1 (wrap64 (x6_1 + 1)))) else (some 3)) = some r := H
              have A8 := Aside0.mk A80
              clear A80
              by_cases c9 : t103 = true
              · subst c9
                have H1 : (if x6_1 > 0 then (if 0 ≤ (wrap64 (x6_1 - 1)) then (if (wrap64 (x6_1 - 1)) < (l1.length : Int) then (if (rd l1 x6_1) ≤ (rd l1 (wrap64 (x6_1 - 1))) then (some 3) else (spec_l7Set.l0 k1 l0 l1 (wrap64 (x6_1 + 1)))) else (none)) else (none)) else (spec_l7Set.l0 k1 l0 l1 (wrap64 (x6_1 + 1)))) = some r := by rw [if_pos rfl] at H; exact H
                clear H
                have H := H1
                clear H1
                by_cases c10 : x6_1 > 0
                · rw [if_pos c10] at H
                  have c10b0 : decide (0 < x6_1) = true := decide_eq_true c10
                  clear c10
                  obtain ⟨ji11, hji11⟩ : ∃ j_ : Int, (wrap64 (x6_1 - 1)) = j_ := ⟨_, rfl⟩
                  replace H : (if 0 ≤ (ji11) then (if (ji11) < (l1.length : Int) then (if (rd l1 x6_1) ≤ (rd l1 (ji11)) then (some 3) else (spec_l7Set.l0 k1 l0 l1 (wrap64 (x6_1 + 1)))) else (none)) else (none)) = some r := by first | (rw [hji11] at H; exact H) | (simp only [hji11] at H ⊢; exact H)
                  (try rw [hji11] at A8)
                  have hji11w : (IntKind.i64.wrap (x6_1 - 1)) = ji11 := (i64_w _).trans hji11
                  by_cases c12 : 0 ≤ (ji11)
                  · rw [if_pos c12] at H
                    have c12b0 : decide (0 ≤ (ji11)) = true := decide_eq_true c12
                    clear c12
                    by_cases c13 : (ji11) < (l1.length : Int)
                    · rw [if_pos c13] at H
                      have c13b0 : decide ((ji11) < (l1.length : Int)) = true := decide_eq_true c13
                      clear c13
                      by_cases c14 : (rd l1 x6_1) ≤ (rd l1 (ji11))
                      · rw [if_pos c14] at H
                        have c14b0 : decide ((rd l1 x6_1) ≤ (rd l1 (ji11))) = true := decide_eq_true c14
                        clear c14
                        obtain rfl := Option.some.inj H
                        have p102 : 0 ≤ (x6_1 : Int) := of_decide_eq_true (by first | (with_reducible assumption) | assumption)
                        have q102 : x6_1 < (l1.length : Int) := of_decide_eq_true (by first | (with_reducible assumption) | assumption)
                        obtain ⟨ad102, e102, hx102_0⟩ := Kd.at_int HR1.out x6_1 p102 q102
                        cases e102
                        replace p102 := eq_true p102
                        replace q102 := eq_true q102
                        go_wp2_with (first | (go_at_call 78; (first | (with_reducible refine (spec_l1In.calls (rd l1 x6_1) 0 (wrap64 ((l0.length : Int) - 1)) true _ A8.out).mono ?_) | (refine calls_of_args (by simp only [i64_w]; rfl) ?_; (with_reducible refine (spec_l1In.calls (rd l1 x6_1) 0 (wrap64 ((l0.length : Int) - 1)) true _ A8.out).mono ?_))); rintro e w' ⟨rfl, ⟨nd, rfl⟩⟩; (try first | exact ⟨rfl, _, World.drewN_drewN _ _ _⟩ | exact ⟨rfl, _, Eq.trans (World.drewN_drewN _ _ _) (congrArg (World.drewN _) (Nat.add_assoc _ _ _))⟩); have p104 : 0 ≤ (x6_1 : Int) := of_decide_eq_true (by first | (with_reducible assumption) | assumption); have q104 : x6_1 < (l1.length : Int) := of_decide_eq_true (by first | (with_reducible assumption) | assumption); obtain ⟨ad104, e104, hx104_0⟩ := Kd.at_int HR1.out x6_1 p104 q104; obtain rfl : ad102 = ad104 := (by injection e104); replace p104 := eq_true p104; replace q104 := eq_true q104; have p105 : 0 ≤ ((ji11) : Int) := of_decide_eq_true (by first | (with_reducible assumption) | assumption); have q105 : (ji11) < (l1.length : Int) := of_decide_eq_true (by first | (with_reducible assumption) | assumption); obtain ⟨ad105, e105, hx105_0⟩ := Kd.at_int HR1.out (ji11) p105 q105; obtain rfl : ad102 = ad105 := (by injection e105); replace p105 := eq_true p105; replace q105 := eq_true q105))
                        repeat (go_quiet (first | (go_at_call 78; (first | (with_reducible refine (spec_l1In.calls (rd l1 x6_1) 0 (wrap64 ((l0.length : Int) - 1)) true _ A8.out).mono ?_) | (refine calls_of_args (by simp only [i64_w]; rfl) ?_; (with_reducible refine (spec_l1In.calls (rd l1 x6_1) 0 (wrap64 ((l0.length : Int) - 1)) true _ A8.out).mono ?_))); rintro e w' ⟨rfl, ⟨nd, rfl⟩⟩; (try first | exact ⟨rfl, _, World.drewN_drewN _ _ _⟩ | exact ⟨rfl, _, Eq.trans (World.drewN_drewN _ _ _) (congrArg (World.drewN _) (Nat.add_assoc _ _ _))⟩); have p104 : 0 ≤ (x6_1 : Int) := of_decide_eq_true (by first | (with_reducible assumption) | assumption); have q104 : x6_1 < (l1.length : Int) := of_decide_eq_true (by first | (with_reducible assumption) | assumption); obtain ⟨ad104, e104, hx104_0⟩ := Kd.at_int HR1.out x6_1 p104 q104; obtain rfl : ad102 = ad104 := (by injection e104); replace p104 := eq_true p104; replace q104 := eq_true q104; have p105 : 0 ≤ ((ji11) : Int) := of_decide_eq_true (by first | (with_reducible assumption) | assumption); have q105 : (ji11) < (l1.length : Int) := of_decide_eq_true (by first | (with_reducible assumption) | assumption); obtain ⟨ad105, e105, hx105_0⟩ := Kd.at_int HR1.out (ji11) p105 q105; obtain rfl : ad102 = ad105 := (by injection e105); replace p105 := eq_true p105; replace q105 := eq_true q105)); try go_wp2_with (first | (go_at_call 78; (first | (with_reducible refine (spec_l1In.calls (rd l1 x6_1) 0 (wrap64 ((l0.length : Int) - 1)) true _ A8.out).mono ?_) | (refine calls_of_args (by simp only [i64_w]; rfl) ?_; (with_reducible refine (spec_l1In.calls (rd l1 x6_1) 0 (wrap64 ((l0.length : Int) - 1)) true _ A8.out).mono ?_))); rintro e w' ⟨rfl, ⟨nd, rfl⟩⟩; (try first | exact ⟨rfl, _, World.drewN_drewN _ _ _⟩ | exact ⟨rfl, _, Eq.trans (World.drewN_drewN _ _ _) (congrArg (World.drewN _) (Nat.add_assoc _ _ _))⟩); have p104 : 0 ≤ (x6_1 : Int) := of_decide_eq_true (by first | (with_reducible assumption) | assumption); have q104 : x6_1 < (l1.length : Int) := of_decide_eq_true (by first | (with_reducible assumption) | assumption); obtain ⟨ad104, e104, hx104_0⟩ := Kd.at_int HR1.out x6_1 p104 q104; obtain rfl : ad102 = ad104 := (by injection e104); replace p104 := eq_true p104; replace q104 := eq_true q104; have p105 : 0 ≤ ((ji11) : Int) := of_decide_eq_true (by first | (with_reducible assumption) | assumption); have q105 : (ji11) < (l1.length : Int) := of_decide_eq_true (by first | (with_reducible assumption) | assumption); obtain ⟨ad105, e105, hx105_0⟩ := Kd.at_int HR1.out (ji11) p105 q105; obtain rfl : ad102 = ad105 := (by injection e105); replace p105 := eq_true p105; replace q105 := eq_true q105)))
                        go_ret
                        exact ⟨by first | rfl | (simp; done) | (simp only [← hji11] <;> (first | rfl | simp)) | (simp [*]; done), by repeat (first | exact Drawn0.refl _ | apply Drawn0.step)⟩
                      · rw [if_neg c14] at H
                        have c14b0 : decide ((rd l1 x6_1) ≤ (rd l1 (ji11))) = false := decide_eq_false c14
                        clear c14
                        have H' := Aside0.mk H
                        clear H
                        have p102 : 0 ≤ (x6_1 : Int) := of_decide_eq_true (by first | (with_reducible assumption) | assumption)
                        have q102 : x6_1 < (l1.length : Int) := of_decide_eq_true (by first | (with_reducible assumption) | assumption)
                        obtain ⟨ad102, e102, hx102_0⟩ := Kd.at_int HR1.out x6_1 p102 q102
                        cases e102
                        replace p102 := eq_true p102
                        replace q102 := eq_true q102
                        go_wp2_with (first | (go_at_call 78; (first | (with_reducible refine (spec_l1In.calls (rd l1 x6_1) 0 (wrap64 ((l0.length : Int) - 1)) true _ A8.out).mono ?_) | (refine calls_of_args (by simp only [i64_w]; rfl) ?_; (with_reducible refine (spec_l1In.calls (rd l1 x6_1) 0 (wrap64 ((l0.length : Int) - 1)) true _ A8.out).mono ?_))); rintro e w' ⟨rfl, ⟨nd, rfl⟩⟩; (try first | exact ⟨rfl, _, World.drewN_drewN _ _ _⟩ | exact ⟨rfl, _, Eq.trans (World.drewN_drewN _ _ _) (congrArg (World.drewN _) (Nat.add_assoc _ _ _))⟩); have p104 : 0 ≤ (x6_1 : Int) := of_decide_eq_true (by first | (with_reducible assumption) | assumption); have q104 : x6_1 < (l1.length : Int) := of_decide_eq_true (by first | (with_reducible assumption) | assumption); obtain ⟨ad104, e104, hx104_0⟩ := Kd.at_int HR1.out x6_1 p104 q104; obtain rfl : ad102 = ad104 := (by injection e104); replace p104 := eq_true p104; replace q104 := eq_true q104; have p105 : 0 ≤ ((ji11) : Int) := of_decide_eq_true (by first | (with_reducible assumption) | assumption); have q105 : (ji11) < (l1.length : Int) := of_decide_eq_true (by first | (with_reducible assumption) | assumption); obtain ⟨ad105, e105, hx105_0⟩ := Kd.at_int HR1.out (ji11) p105 q105; obtain rfl : ad102 = ad105 := (by injection e105); replace p105 := eq_true p105; replace q105 := eq_true q105))
                        repeat (go_quiet (first | (go_at_call 78; (first | (with_reducible refine (spec_l1In.calls (rd l1 x6_1) 0 (wrap64 ((l0.length : Int) - 1)) true _ A8.out).mono ?_) | (refine calls_of_args (by simp only [i64_w]; rfl) ?_; (with_reducible refine (spec_l1In.calls (rd l1 x6_1) 0 (wrap64 ((l0.length : Int) - 1)) true _ A8.out).mono ?_))); rintro e w' ⟨rfl, ⟨nd, rfl⟩⟩; (try first | exact ⟨rfl, _, World.drewN_drewN _ _ _⟩ | exact ⟨rfl, _, Eq.trans (World.drewN_drewN _ _ _) (congrArg (World.drewN _) (Nat.add_assoc _ _ _))⟩); have p104 : 0 ≤ (x6_1 : Int) := of_decide_eq_true (by first | (with_reducible assumption) | assumption); have q104 : x6_1 < (l1.length : Int) := of_decide_eq_true (by first | (with_reducible assumption) | assumption); obtain ⟨ad104, e104, hx104_0⟩ := Kd.at_int HR1.out x6_1 p104 q104; obtain rfl : ad102 = ad104 := (by injection e104); replace p104 := eq_true p104; replace q104 := eq_true q104; have p105 : 0 ≤ ((ji11) : Int) := of_decide_eq_true (by first | (with_reducible assumption) | assumption); have q105 : (ji11) < (l1.length : Int) := of_decide_eq_true (by first | (with_reducible assumption) | assumption); obtain ⟨ad105, e105, hx105_0⟩ := Kd.at_int HR1.out (ji11) p105 q105; obtain rfl : ad102 = ad105 := (by injection e105); replace p105 := eq_true p105; replace q105 := eq_true q105)); try go_wp2_with (first | (go_at_call 78; (first | (with_reducible refine (spec_l1In.calls (rd l1 x6_1) 0 (wrap64 ((l0.length : Int) - 1)) true _ A8.out).mono ?_) | (refine calls_of_args (by simp only [i64_w]; rfl) ?_; (with_reducible refine (spec_l1In.calls (rd l1 x6_1) 0 (wrap64 ((l0.length : Int) - 1)) true _ A8.out).mono ?_))); rintro e w' ⟨rfl, ⟨nd, rfl⟩⟩; (try first | exact ⟨rfl, _, World.drewN_drewN _ _ _⟩ | exact ⟨rfl, _, Eq.trans (World.drewN_drewN _ _ _) (congrArg (World.drewN _) (Nat.add_assoc _ _ _))⟩); have p104 : 0 ≤ (x6_1 : Int) := of_decide_eq_true (by first | (with_reducible assumption) | assumption); have q104 : x6_1 < (l1.length : Int) := of_decide_eq_true (by first | (with_reducible assumption) | assumption); obtain ⟨ad104, e104, hx104_0⟩ := Kd.at_int HR1.out x6_1 p104 q104; obtain rfl : ad102 = ad104 := (by injection e104); replace p104 := eq_true p104; replace q104 := eq_true q104; have p105 : 0 ≤ ((ji11) : Int) := of_decide_eq_true (by first | (with_reducible assumption) | assumption); have q105 : (ji11) < (l1.length : Int) := of_decide_eq_true (by first | (with_reducible assumption) | assumption); obtain ⟨ad105, e105, hx105_0⟩ := Kd.at_int HR1.out (ji11) p105 q105; obtain rfl : ad102 = ad105 := (by injection e105); replace p105 := eq_true p105; replace q105 := eq_true q105)))
                        go_roundg k1
                        case measure => have := HK1.out; omega
                        case rel => exact ⟨(wrap64 (x6_1 + 1)), (by first | rfl | (simp; done) | (simp [*]; done)), H', ⟨by have := HK1.out; omega⟩, by repeat (first | exact Drawn0.refl _ | apply Drawn0.step)⟩
                    · rw [if_neg c13] at H
                      exact absurd H (by simp)
                  · rw [if_neg c12] at H
                    exact absurd H (by simp)
                · rw [if_neg c10] at H
                  have c10b0 : decide (0 < x6_1) = false := decide_eq_false c10
                  clear c10
                  have H' := Aside0.mk H
                  clear H
                  have p102 : 0 ≤ (x6_1 : Int) := of_decide_eq_true (by first | (with_reducible assumption) | assumption)
                  have q102 : x6_1 < (l1.length : Int) := of_decide_eq_true (by first | (with_reducible assumption) | assumption)
                  obtain ⟨ad102, e102, hx102_0⟩ := Kd.at_int HR1.out x6_1 p102 q102
                  cases e102
                  replace p102 := eq_true p102
                  replace q102 := eq_true q102
                  go_wp2_with (first | (go_at_call 78; (first | (with_reducible refine (spec_l1In.calls (rd l1 x6_1) 0 (wrap64 ((l0.length : Int) - 1)) true _ A8.out).mono ?_) | (refine calls_of_args (by simp only [i64_w]; rfl) ?_; (with_reducible refine (spec_l1In.calls (rd l1 x6_1) 0 (wrap64 ((l0.length : Int) - 1)) true _ A8.out).mono ?_))); rintro e w' ⟨rfl, ⟨nd, rfl⟩⟩; (try first | exact ⟨rfl, _, World.drewN_drewN _ _ _⟩ | exact ⟨rfl, _, Eq.trans (World.drewN_drewN _ _ _) (congrArg (World.drewN _) (Nat.add_assoc _ _ _))⟩)))
                  repeat (go_quiet (first | (go_at_call 78; (first | (with_reducible refine (spec_l1In.calls (rd l1 x6_1) 0 (wrap64 ((l0.length : Int) - 1)) true _ A8.out).mono ?_) | (refine calls_of_args (by simp only [i64_w]; rfl) ?_; (with_reducible refine (spec_l1In.calls (rd l1 x6_1) 0 (wrap64 ((l0.length : Int) - 1)) true _ A8.out).mono ?_))); rintro e w' ⟨rfl, ⟨nd, rfl⟩⟩; (try first | exact ⟨rfl, _, World.drewN_drewN _ _ _⟩ | exact ⟨rfl, _, Eq.trans (World.drewN_drewN _ _ _) (congrArg (World.drewN _) (Nat.add_assoc _ _ _))⟩))); try go_wp2_with (first | (go_at_call 78; (first | (with_reducible refine (spec_l1In.calls (rd l1 x6_1) 0 (wrap64 ((l0.length : Int) - 1)) true _ A8.out).mono ?_) | (refine calls_of_args (by simp only [i64_w]; rfl) ?_; (with_reducible refine (spec_l1In.calls (rd l1 x6_1) 0 (wrap64 ((l0.length : Int) - 1)) true _ A8.out).mono ?_))); rintro e w' ⟨rfl, ⟨nd, rfl⟩⟩; (try first | exact ⟨rfl, _, World.drewN_drewN _ _ _⟩ | exact ⟨rfl, _, Eq.trans (World.drewN_drewN _ _ _) (congrArg (World.drewN _) (Nat.add_assoc _ _ _))⟩))))
                  go_roundg k1
                  case measure => have := HK1.out; omega
                  case rel => exact ⟨(wrap64 (x6_1 + 1)), (by first | rfl | (simp; done) | (simp [*]; done)), H', ⟨by have := HK1.out; omega⟩, by repeat (first | exact Drawn0.refl _ | apply Drawn0.step)⟩
              · replace c9 := Bool.eq_false_iff.mpr c9
                subst c9
                have H1 : (some 3) = some r := by rw [if_neg (show ¬ (false = true) by decide)] at H; exact H
                clear H
                have H := H1
                clear H1
                obtain rfl := Option.some.inj H
                have p102 : 0 ≤ (x6_1 : Int) := of_decide_eq_true (by first | (with_reducible assumption) | assumption)
                have q102 : x6_1 < (l1.length : Int) := of_decide_eq_true (by first | (with_reducible assumption) | assumption)
                obtain ⟨ad102, e102, hx102_0⟩ := Kd.at_int HR1.out x6_1 p102 q102
                cases e102
                replace p102 := eq_true p102
                replace q102 := eq_true q102
                go_wp2_with (first | (go_at_call 78; (first | (with_reducible refine (spec_l1In.calls (rd l1 x6_1) 0 (wrap64 ((l0.length : Int) - 1)) false _ A8.out).mono ?_) | (refine calls_of_args (by simp only [i64_w]; rfl) ?_; (with_reducible refine (spec_l1In.calls (rd l1 x6_1) 0 (wrap64 ((l0.length : Int) - 1)) false _ A8.out).mono ?_))); rintro e w' ⟨rfl, ⟨nd, rfl⟩⟩; (try first | exact ⟨rfl, _, World.drewN_drewN _ _ _⟩ | exact ⟨rfl, _, Eq.trans (World.drewN_drewN _ _ _) (congrArg (World.drewN _) (Nat.add_assoc _ _ _))⟩)))
                repeat (go_quiet (first | (go_at_call 78; (first | (with_reducible refine (spec_l1In.calls (rd l1 x6_1) 0 (wrap64 ((l0.length : Int) - 1)) false _ A8.out).mono ?_) | (refine calls_of_args (by simp only [i64_w]; rfl) ?_; (with_reducible refine (spec_l1In.calls (rd l1 x6_1) 0 (wrap64 ((l0.length : Int) - 1)) false _ A8.out).mono ?_))); rintro e w' ⟨rfl, ⟨nd, rfl⟩⟩; (try first | exact ⟨rfl, _, World.drewN_drewN _ _ _⟩ | exact ⟨rfl, _, Eq.trans (World.drewN_drewN _ _ _) (congrArg (World.drewN _) (Nat.add_assoc _ _ _))⟩))); try go_wp2_with (first | (go_at_call 78; (first | (with_reducible refine (spec_l1In.calls (rd l1 x6_1) 0 (wrap64 ((l0.length : Int) - 1)) false _ A8.out).mono ?_) | (refine calls_of_args (by simp only [i64_w]; rfl) ?_; (with_reducible refine (spec_l1In.calls (rd l1 x6_1) 0 (wrap64 ((l0.length : Int) - 1)) false _ A8.out).mono ?_))); rintro e w' ⟨rfl, ⟨nd, rfl⟩⟩; (try first | exact ⟨rfl, _, World.drewN_drewN _ _ _⟩ | exact ⟨rfl, _, Eq.trans (World.drewN_drewN _ _ _) (congrArg (World.drewN _) (Nat.add_assoc _ _ _))⟩))))
                go_ret
                exact ⟨by first | rfl | (simp; done) | (simp [*]; done), by repeat (first | exact Drawn0.refl _ | apply Drawn0.step)⟩
            · rw [if_neg c7] at H
              exact absurd H (by simp)
          · rw [if_neg c6] at H
            have c6b0 : decide (x6_1 < (l1.length : Int)) = false := decide_eq_false c6
            clear c6
            obtain rfl := Option.some.inj H
            go_wp2
            repeat (go_quiet (fail); try go_wp2)
            go_ret
            exact ⟨by first | rfl | (simp; done) | (simp [*]; done), by repeat (first | exact Drawn0.refl _ | apply Drawn0.step)⟩
  · rw [if_neg c4] at H
    have c4b0 : (t101 == 0) = false := beq_eq_false_iff_ne.mpr c4
    have c4b1 : (t101 != 0) = true := bne_iff_ne.mpr c4
    obtain rfl := Option.some.inj H
    go_enter Try.func94, Try.ntmps94
    go_wp2_with (first | (go_at_call 90; (with_reducible refine (spec_l7Fault.calls _ _ l0 t101 _ ?side1 ?side2 A3.out).mono ?_); (case side1 => repeat (first | exact HR0.out | (with_reducible refine Kd.C_alloc ?_ _) | (with_reducible refine Kd.C_drewN ?_ _) | (with_reducible refine Kd.C_drew ?_))); (case side2 => exact HC0.out); rintro e w' ⟨rfl, ⟨nd, rfl⟩⟩; (try first | exact ⟨rfl, _, World.drewN_drewN _ _ _⟩ | exact ⟨rfl, _, Eq.trans (World.drewN_drewN _ _ _) (congrArg (World.drewN _) (Nat.add_assoc _ _ _))⟩)))
    repeat (go_quiet (first | (go_at_call 90; (with_reducible refine (spec_l7Fault.calls _ _ l0 t101 _ ?side1 ?side2 A3.out).mono ?_); (case side1 => repeat (first | exact HR0.out | (with_reducible refine Kd.C_alloc ?_ _) | (with_reducible refine Kd.C_drewN ?_ _) | (with_reducible refine Kd.C_drew ?_))); (case side2 => exact HC0.out); rintro e w' ⟨rfl, ⟨nd, rfl⟩⟩; (try first | exact ⟨rfl, _, World.drewN_drewN _ _ _⟩ | exact ⟨rfl, _, Eq.trans (World.drewN_drewN _ _ _) (congrArg (World.drewN _) (Nat.add_assoc _ _ _))⟩))); try go_wp2_with (first | (go_at_call 90; (with_reducible refine (spec_l7Fault.calls _ _ l0 t101 _ ?side1 ?side2 A3.out).mono ?_); (case side1 => repeat (first | exact HR0.out | (with_reducible refine Kd.C_alloc ?_ _) | (with_reducible refine Kd.C_drewN ?_ _) | (with_reducible refine Kd.C_drew ?_))); (case side2 => exact HC0.out); rintro e w' ⟨rfl, ⟨nd, rfl⟩⟩; (try first | exact ⟨rfl, _, World.drewN_drewN _ _ _⟩ | exact ⟨rfl, _, Eq.trans (World.drewN_drewN _ _ _) (congrArg (World.drewN _) (Nat.add_assoc _ _ _))⟩))))
    go_ret
    exact ⟨by first | rfl | (simp; done) | (simp [*]; done), by repeat (first | exact Drawn0.refl _ | apply Drawn0.step)⟩

end Go.Proofs.Ytjnmhpldabbeiaa.Q
end
section
namespace Go.Proofs.Ytjnmhpldabbeiaa.Q
open Go.RowKit Go.Proofs.YtjnmhpldabbeiaaW.PrintWords Go.Proofs.YtjnmhpldabbeiaaW.PrintLast Go.Proofs.YtjnmhpldabbeiaaW.PrintMore
attribute [local go_sem] max2_int min2_int max_two min_two max_three min_three max_four min_four   -- for this text's walks alone
set_option linter.unusedVariables false
set_option linter.unusedSimpArgs false

/-! ### spec_SetFault: function 44 -/
def spec_SetFault.f (k : Nat) (l0 : List (S134)) (l1 : List Int) : Option (Int) := (spec_l7Set.f k l0 l1).bind fun t101 => (some t101)
theorem spec_SetFault.mono : ∀ a0 a1 k, LeO (spec_SetFault.f k a0 a1) (spec_SetFault.f (k + 1) a0 a1) := by
  intro a0 a1 k
  unfold spec_SetFault.f
  repeat' first
      | (with_reducible exact spec_l7Set.mono _ _ _)
      | (with_reducible exact LeO.refl _)
      | (with_reducible exact LeO.none _)
      | (with_reducible refine LeO.ite ?_ ?_)
      | (with_reducible refine LeO.bind ?_ (fun _ => ?_))
      | exact spec_l7Set.mono _ _ _
      | exact LeO.none _
      | refine LeO.ite ?_ ?_
      | refine LeO.bind ?_ (fun _ => ?_)
set_option maxHeartbeats 8000000 in
set_option maxRecDepth 100000 in
theorem spec_SetFault.calls (k : Nat) (A0 : Option Addr) (c0 : Nat) (l0 : List (S134)) (A1 : Option Addr) (c1 : Nat) (l1 : List Int) (r : Int) (w : World) (hr0 : Kd.C k134 w A0 l0.length l0) (hc0 : l0.length ≤ c0) (hr1 : Kd.C (Kd.int .i64) w A1 l1.length l1) (hc1 : l1.length ≤ c1) (h : spec_SetFault.f k l0 l1 = some r) :
    Calls Try.prog 44 #[.slice A0 l0.length c0, .slice A1 l1.length c1] w fun e w' => e = .returned (.int .i64 r) ∧ Drawn0 w w' := by
  have HR0 := Aside0.mk hr0
  have HC0 := Aside0.mk hc0
  clear hr0 hc0
  have HR1 := Aside0.mk hr1
  have HC1 := Aside0.mk hc1
  clear hr1 hc1
  have H : ((spec_l7Set.f k l0 l1).bind fun t101 => (some t101)) = some r := h
  clear h
  replace H := Option.bind_eq_some_iff.mp H
  obtain ⟨t101, A30, H⟩ := H
  replace H : (some t101) = some r := H
  have A3 := Aside0.mk A30
  clear A30
  obtain rfl := Option.some.inj H
  go_enter Try.func44, Try.ntmps44
  go_wp2_with (first | ((with_reducible refine gate_callee (f := 94) rfl ?_); refine goesL_ (some 7) rfl rfl Try.func94 (by kernel_rfl) rfl #[.slice A0 l0.length c0, .slice A1 l1.length c1] rfl (by (try simp only [List.map_toArray, List.map_cons, List.map_nil]); first | done | rfl | (simp only [List.length_drop, List.length_take]; rfl)) ?_; (with_reducible refine (spec_l7Set.calls k _ _ l0 _ _ l1 t101 _ ?side1 ?side2 ?side3 ?side4 A3.out).mono ?_); (case side1 => repeat (first | exact HR0.out | (with_reducible refine Kd.C_alloc ?_ _) | (with_reducible refine Kd.C_drewN ?_ _) | (with_reducible refine Kd.C_drew ?_))); (case side2 => exact HC0.out); (case side3 => repeat (first | exact HR1.out | (with_reducible refine Kd.C_alloc ?_ _) | (with_reducible refine Kd.C_drewN ?_ _) | (with_reducible refine Kd.C_drew ?_))); (case side4 => exact HC1.out); rintro e w' ⟨rfl, ⟨nd, rfl⟩⟩; refine ⟨_, rfl, ?_⟩))
  go_ret
  exact ⟨by first | rfl | (simp; done) | (simp [*]; done), by repeat (first | exact Drawn0.refl _ | apply Drawn0.step)⟩

end Go.Proofs.Ytjnmhpldabbeiaa.Q
end
section
namespace Go.Proofs.Ytjnmhpldabbeiaa.Q
open Go.RowKit Go.Proofs.YtjnmhpldabbeiaaW.PrintWords Go.Proofs.YtjnmhpldabbeiaaW.PrintLast Go.Proofs.YtjnmhpldabbeiaaW.PrintMore
attribute [local go_sem] max2_int min2_int max_two min_two max_three min_three max_four min_four   -- for this text's walks alone
set_option linter.unusedVariables false
set_option linter.unusedSimpArgs false

/-! ### laws_FnExactSetFault: function 9 -/
def laws_FnExactSetFault.f (k : Nat) (l0 : List (S131)) (l1 : List Int) : Option (Bool) := if (l1.length : Int) > 1048576 then (some true) else ((laws_szInstS.f k l0 1048576).bind fun t101 => (if t101 < 0 then (some true) else ((laws_toInstS.f k l0).bind fun t102 => ((laws_toInt64S.f k l1).bind fun t105 => ((spec_SetFault.f k t102 t105).bind fun t108 => ((laws_toInstS.f k l0).bind fun t109 => ((laws_toInt64S.f k l1).bind fun t112 => ((impl_SetFault.f k t109 t112).bind fun t115 => (if t115 = t108 then ((laws_toInstS.f k l0).bind fun t116 => ((laws_eqInstS.f k t109 t116).bind fun t119 => (if t119 = true then ((laws_toInt64S.f k l1).bind fun t120 => ((laws_eqInt64S.f k t112 t120).bind fun t123 => (if t123 = true then (some true) else (some false)))) else (some false)))) else (some false))))))))))
theorem laws_FnExactSetFault.mono : ∀ a0 a1 k, LeO (laws_FnExactSetFault.f k a0 a1) (laws_FnExactSetFault.f (k + 1) a0 a1) := by
  intro a0 a1 k
  unfold laws_FnExactSetFault.f
  repeat' first
      | (with_reducible exact impl_SetFault.mono _ _ _)
      | (with_reducible exact laws_eqInstS.mono _ _ _)
      | (with_reducible exact laws_eqInt64S.mono _ _ _)
      | (with_reducible exact laws_szInstS.mono _ _ _)
      | (with_reducible exact laws_toInstS.mono _ _)
      | (with_reducible exact laws_toInt64S.mono _ _)
      | (with_reducible exact spec_SetFault.mono _ _ _)
      | (with_reducible exact LeO.refl _)
      | (with_reducible exact LeO.none _)
      | (with_reducible refine LeO.ite ?_ ?_)
      | (with_reducible refine LeO.bind ?_ (fun _ => ?_))
      | exact impl_SetFault.mono _ _ _
      | exact laws_eqInstS.mono _ _ _
      | exact laws_eqInt64S.mono _ _ _
      | exact laws_szInstS.mono _ _ _
      | exact laws_toInstS.mono _ _
      | exact laws_toInt64S.mono _ _
      | exact spec_SetFault.mono _ _ _
      | exact LeO.none _
      | refine LeO.ite ?_ ?_
      | refine LeO.bind ?_ (fun _ => ?_)
set_option maxHeartbeats 8000000 in
set_option maxRecDepth 100000 in
theorem laws_FnExactSetFault.calls (k : Nat) (A0 : Option Addr) (c0 : Nat) (l0 : List (S131)) (A1 : Option Addr) (c1 : Nat) (l1 : List Int) (r : Bool) (w : World) (hr0 : Kd.C k131 w A0 l0.length l0) (hc0 : l0.length ≤ c0) (hr1 : Kd.C (Kd.int .i64) w A1 l1.length l1) (hc1 : l1.length ≤ c1) (h : laws_FnExactSetFault.f k l0 l1 = some r) :
    Calls Try.prog 9 #[.slice A0 l0.length c0, .slice A1 l1.length c1] w fun e w' => e = .returned (.bool r) ∧ Below w.heap.size w w' := by
  have HR0 := Aside0.mk hr0
  have HC0 := Aside0.mk hc0
  clear hr0 hc0
  have HR1 := Aside0.mk hr1
  have HC1 := Aside0.mk hc1
  clear hr1 hc1
  have HB := Aside0.mk (Below.refl w.heap.size w)
  have H : (if (l1.length : Int) > 1048576 then (some true) else ((laws_szInstS.f k l0 1048576).bind fun t101 => (if t101 < 0 then (some true) else ((laws_toInstS.f k l0).bind fun t102 => ((laws_toInt64S.f k l1).bind fun t105 => ((spec_SetFault.f k t102 t105).bind fun t108 => ((laws_toInstS.f k l0).bind fun t109 => ((laws_toInt64S.f k l1).bind fun t112 => ((impl_SetFault.f k t109 t112).bind fun t115 => (if t115 = t108 then ((laws_toInstS.f k l0).bind fun t116 => ((laws_eqInstS.f k t109 t116).bind fun t119 => (if t119 = true then ((laws_toInt64S.f k l1).bind fun t120 => ((laws_eqInt64S.f k t112 t120).bind fun t123 => (if t123 = true then (some true) else (some false)))) else (some false)))) else (some false))))))))))) = some r := h
  clear h
  by_cases c3 : (l1.length : Int) > 1048576
  · rw [if_pos c3] at H
    have c3b0 : decide (1048576 < (l1.length : Int)) = true := decide_eq_true c3
    have c3b1 : decide (1048576 < l1.length) = true := decide_eq_true (by omega)
    clear c3
    obtain rfl := Option.some.inj H
    go_enter Try.func9, Try.ntmps9
    go_wp2
    go_ret
    exact ⟨by first | rfl | (simp [errW_none, errW_some] <;> rfl) | (simp [*, errW_none, errW_some] <;> rfl), by repeat (first | (with_reducible first | exact HB.out | apply below_alloc | apply pw_below_drewN | apply below_drew1) | exact HB.out)⟩
  · rw [if_neg c3] at H
    have c3b0 : decide (1048576 < (l1.length : Int)) = false := decide_eq_false c3
    have c3b1 : decide (1048576 < l1.length) = false := decide_eq_false (by omega)
    clear c3
    replace H := Option.bind_eq_some_iff.mp H
    obtain ⟨t101, A40, H⟩ := H
    replace H : (if t101 < 0 then (some true) else ((laws_toInstS.f k l0).bind fun t102 => ((laws_toInt64S.f k l1).bind fun t105 => ((spec_SetFault.f k t102 t105).bind fun t108 => ((laws_toInstS.f k l0).bind fun t109 => ((laws_toInt64S.f k l1).bind fun t112 => ((impl_SetFault.f k t109 t112).bind fun t115 => (if t115 = t108 then ((laws_toInstS.f k l0).bind fun t116 => ((laws_eqInstS.f k t109 t116).bind fun t119 => (if t119 = true then ((laws_toInt64S.f k l1).bind fun t120 => ((laws_eqInt64S.f k t112 t120).bind fun t123 => (if t123 = true then (some true) else (some false)))) else (some false)))) else (some false))))))))) = some r := H
    have A4 := Aside0.mk A40
    clear A40
    have HC5 := Aside0.mk H
    clear H
    go_enter Try.func9, Try.ntmps9
    go_upto_if 17 with (first | ((with_reducible refine gate_callee (f := 39) rfl ?_); refine goesL_ (some 15) rfl rfl Try.func39 (by kernel_rfl) rfl #[.slice A0 l0.length c0, .int .i64 1048576] rfl (by (try simp only [List.map_toArray, List.map_cons, List.map_nil]); first | done | rfl | (simp only [List.length_drop, List.length_take]; rfl)) ?_; (with_reducible refine (laws_szInstS.calls k _ _ l0 1048576 t101 _ ?side1 ?side2 A4.out).mono ?_); (case side1 => repeat (first | exact HR0.out | (with_reducible refine Kd.C_alloc ?_ _) | (with_reducible refine Kd.C_drewN ?_ _) | (with_reducible refine Kd.C_drew ?_))); (case side2 => exact HC0.out); rintro e w6 ⟨rfl, hb⟩; refine ⟨_, rfl, ?_⟩; have n0_ := Aside0.mk (below_step (by repeat (first | (with_reducible first | exact HB.out | apply below_alloc | apply pw_below_drewN | apply below_drew1) | exact HB.out)) hb); clear HB; have HB := n0_; clear n0_; (try clear hb); (try clear hb2); (try clear hk); (try clear hi)))
    (try simp only [Act.put, List.setIfInBounds_toArray, List.set_cons_zero, List.set_cons_succ])
    have H := HC5.out
    clear HC5
    by_cases c7 : t101 < 0
    · rw [if_pos c7] at H
      have c7b0 : decide (t101 < 0) = true := decide_eq_true c7
      clear c7
      (first | rw [c7b0] | (simp only [i64_w, i32_w]; rw [c7b0]) | skip)
      obtain rfl := Option.some.inj H
      go_wp2
      go_ret
      exact ⟨by first | rfl | (simp [errW_none, errW_some] <;> rfl) | (simp [*, errW_none, errW_some] <;> rfl), by repeat (first | (with_reducible first | exact HB.out | apply below_alloc | apply pw_below_drewN | apply below_drew1) | exact HB.out)⟩
    · rw [if_neg c7] at H
      have c7b0 : decide (t101 < 0) = false := decide_eq_false c7
      clear c7
      (first | rw [c7b0] | (simp only [i64_w, i32_w]; rw [c7b0]) | skip)
      replace H := Option.bind_eq_some_iff.mp H
      obtain ⟨t102, A80, H⟩ := H
      replace H : ((laws_toInt64S.f k l1).bind fun t105 => ((spec_SetFault.f k t102 t105).bind fun t108 => ((laws_toInstS.f k l0).bind fun t109 => ((laws_toInt64S.f k l1).bind fun t112 => ((impl_SetFault.f k t109 t112).bind fun t115 => (if t115 = t108 then ((laws_toInstS.f k l0).bind fun t116 => ((laws_eqInstS.f k t109 t116).bind fun t119 => (if t119 = true then ((laws_toInt64S.f k l1).bind fun t120 => ((laws_eqInt64S.f k t112 t120).bind fun t123 => (if t123 = true then (some true) else (some false)))) else (some false)))) else (some false))))))) = some r := H
      have A8 := Aside0.mk A80
      clear A80
      replace H := Option.bind_eq_some_iff.mp H
      obtain ⟨t105, A90, H⟩ := H
      replace H : ((spec_SetFault.f k t102 t105).bind fun t108 => ((laws_toInstS.f k l0).bind fun t109 => ((laws_toInt64S.f k l1).bind fun t112 => ((impl_SetFault.f k t109 t112).bind fun t115 => (if t115 = t108 then ((laws_toInstS.f k l0).bind fun t116 => ((laws_eqInstS.f k t109 t116).bind fun t119 => (if t119 = true then ((laws_toInt64S.f k l1).bind fun t120 => ((laws_eqInt64S.f k t112 t120).bind fun t123 => (if t123 = true then (some true) else (some false)))) else (some false)))) else (some false)))))) = some r := H
      have A9 := Aside0.mk A90
      clear A90
      replace H := Option.bind_eq_some_iff.mp H
      obtain ⟨t108, A100, H⟩ := H
      replace H : ((laws_toInstS.f k l0).bind fun t109 => ((laws_toInt64S.f k l1).bind fun t112 => ((impl_SetFault.f k t109 t112).bind fun t115 => (if t115 = t108 then ((laws_toInstS.f k l0).bind fun t116 => ((laws_eqInstS.f k t109 t116).bind fun t119 => (if t119 = true then ((laws_toInt64S.f k l1).bind fun t120 => ((laws_eqInt64S.f k t112 t120).bind fun t123 => (if t123 = true then (some true) else (some false)))) else (some false)))) else (some false))))) = some r := H
      have A10 := Aside0.mk A100
      clear A100
      replace H := Option.bind_eq_some_iff.mp H
      obtain ⟨t109, A110, H⟩ := H
      replace H : ((laws_toInt64S.f k l1).bind fun t112 => ((impl_SetFault.f k t109 t112).bind fun t115 => (if t115 = t108 then ((laws_toInstS.f k l0).bind fun t116 => ((laws_eqInstS.f k t109 t116).bind fun t119 => (if t119 = true then ((laws_toInt64S.f k l1).bind fun t120 => ((laws_eqInt64S.f k t112 t120).bind fun t123 => (if t123 = true then (some true) else (some false)))) else (some false)))) else (some false)))) = some r := H
      have A11 := Aside0.mk A110
      clear A110
      replace H := Option.bind_eq_some_iff.mp H
      obtain ⟨t112, A120, H⟩ := H
      replace H : ((impl_SetFault.f k t109 t112).bind fun t115 => (if t115 = t108 then ((laws_toInstS.f k l0).bind fun t116 => ((laws_eqInstS.f k t109 t116).bind fun t119 => (if t119 = true then ((laws_toInt64S.f k l1).bind fun t120 => ((laws_eqInt64S.f k t112 t120).bind fun t123 => (if t123 = true then (some true) else (some false)))) else (some false)))) else (some false))) = some r := H
      have A12 := Aside0.mk A120
      clear A120
      replace H := Option.bind_eq_some_iff.mp H
      obtain ⟨t115, A130, H⟩ := H
      replace H : (if t115 = t108 then ((laws_toInstS.f k l0).bind fun t116 => ((laws_eqInstS.f k t109 t116).bind fun t119 => (if t119 = true then ((laws_toInt64S.f k l1).bind fun t120 => ((laws_eqInt64S.f k t112 t120).bind fun t123 => (if t123 = true then (some true) else (some false)))) else (some false)))) else (some false)) = some r := H
      have A13 := Aside0.mk A130
      clear A130
      have HC14 := Aside0.mk H
      clear H
      go_upto_if 32 with (first | ((with_reducible refine gate_callee (f := 41) rfl ?_); refine goesL_ (some 19) rfl rfl Try.func41 (by kernel_rfl) rfl #[.slice A0 l0.length c0] rfl (by (try simp only [List.map_toArray, List.map_cons, List.map_nil]); first | done | rfl | (simp only [List.length_drop, List.length_take]; rfl)) ?_; (with_reducible refine (laws_toInstS.calls k _ _ l0 t102 _ ?side1 ?side2 A8.out).mono ?_); (case side1 => repeat (first | exact (Kd.C_below HR0.out HB.out) | (with_reducible refine Kd.C_alloc ?_ _) | (with_reducible refine Kd.C_drewN ?_ _) | (with_reducible refine Kd.C_drew ?_))); (case side2 => exact HC0.out); rintro e w15 ⟨v103, rfl, ho0, hb⟩; refine ⟨_, rfl, ?_⟩; have n0_ := Aside0.mk (Kd.R_lower ho0 (below_size (by repeat (first | (with_reducible first | exact HB.out | apply below_alloc | apply pw_below_drewN | apply below_drew1) | exact HB.out)))); have n1_ := Aside0.mk (below_step (by repeat (first | (with_reducible first | exact HB.out | apply below_alloc | apply pw_below_drewN | apply below_drew1) | exact HB.out)) hb); clear HB; have HO104 := n0_; have HB := n1_; clear n0_ n1_; (try clear hb); (try clear hb2); (try clear hk); (try clear hi); (try clear ho0)) | ((with_reducible refine gate_callee (f := 45) rfl ?_); refine goesL_ (some 21) rfl rfl Try.func45 (by kernel_rfl) rfl #[.slice A1 l1.length c1] rfl (by (try simp only [List.map_toArray, List.map_cons, List.map_nil]); first | done | rfl | (simp only [List.length_drop, List.length_take]; rfl)) ?_; (with_reducible refine (laws_toInt64S.calls k _ _ l1 t105 _ ?side1 ?side2 A9.out).mono ?_); (case side1 => repeat (first | exact (Kd.C_below HR1.out HB.out) | (with_reducible refine Kd.C_alloc ?_ _) | (with_reducible refine Kd.C_drewN ?_ _) | (with_reducible refine Kd.C_drew ?_))); (case side2 => exact HC1.out); rintro e w16 ⟨v106, rfl, ho0, hb⟩; refine ⟨_, rfl, ?_⟩; have n0_ := Aside0.mk (Kd.R_below (by (with_reducible repeat (first | apply Kd.R_alloc | apply Kd.R_drewN | apply Kd.R_drew)); exact HO104.out) hb); have n1_ := Aside0.mk (Kd.R_lower ho0 (below_size (by repeat (first | (with_reducible first | exact HB.out | apply below_alloc | apply pw_below_drewN | apply below_drew1) | exact HB.out)))); have n2_ := Aside0.mk (below_step (by repeat (first | (with_reducible first | exact HB.out | apply below_alloc | apply pw_below_drewN | apply below_drew1) | exact HB.out)) hb); clear HO104; clear HB; have HO104 := n0_; have HO107 := n1_; have HB := n2_; clear n0_ n1_ n2_; (try clear hb); (try clear hb2); (try clear hk); (try clear hi); (try clear ho0); obtain ⟨Ao17, co17, eo17⟩ := Kd.R_slice HO104.out; subst eo17; obtain ⟨Ao18, co18, eo18⟩ := Kd.R_slice HO107.out; subst eo18) | ((with_reducible refine gate_callee (f := 44) rfl ?_); refine goesL_ (some 22) rfl rfl Try.func44 (by kernel_rfl) rfl #[.slice Ao17 t102.length co17, .slice Ao18 t105.length co18] rfl (by (try simp only [List.map_toArray, List.map_cons, List.map_nil]); first | done | rfl | (simp only [List.length_drop, List.length_take]; rfl)) ?_; (with_reducible refine (spec_SetFault.calls k _ _ t102 _ _ t105 t108 _ ?side1 ?side2 ?side3 ?side4 A10.out).mono ?_); (case side1 => repeat (first | exact (Kd.R_reads' HO104.out).2.2 | (with_reducible refine Kd.C_alloc ?_ _) | (with_reducible refine Kd.C_drewN ?_ _) | (with_reducible refine Kd.C_drew ?_))); (case side2 => exact (Kd.R_reads' HO104.out).2.1); (case side3 => repeat (first | exact (Kd.R_reads' HO107.out).2.2 | (with_reducible refine Kd.C_alloc ?_ _) | (with_reducible refine Kd.C_drewN ?_ _) | (with_reducible refine Kd.C_drew ?_))); (case side4 => exact (Kd.R_reads' HO107.out).2.1); rintro e w' ⟨rfl, ⟨nd, rfl⟩⟩; refine ⟨_, rfl, ?_⟩) | ((with_reducible refine gate_callee (f := 41) rfl ?_); refine goesL_ (some 24) rfl rfl Try.func41 (by kernel_rfl) rfl #[.slice A0 l0.length c0] rfl (by (try simp only [List.map_toArray, List.map_cons, List.map_nil]); first | done | rfl | (simp only [List.length_drop, List.length_take]; rfl)) ?_; (with_reducible refine (laws_toInstS.calls k _ _ l0 t109 _ ?side1 ?side2 A11.out).mono ?_); (case side1 => repeat (first | exact (Kd.C_below HR0.out (by repeat (first | (with_reducible first | exact HB.out | apply below_alloc | apply pw_below_drewN | apply below_drew1) | exact HB.out))) | (with_reducible refine Kd.C_alloc ?_ _) | (with_reducible refine Kd.C_drewN ?_ _) | (with_reducible refine Kd.C_drew ?_))); (case side2 => exact HC0.out); rintro e w19 ⟨v110, rfl, ho0, hb⟩; refine ⟨_, rfl, ?_⟩; have n0_ := Aside0.mk (Kd.R_elder' (by (with_reducible repeat (first | apply Kd.R_alloc | apply Kd.R_drewN | apply Kd.R_drew)); exact HO104.out) (Kd.R_base ho0) hb); have n1_ := Aside0.mk (Kd.R_below (by (with_reducible repeat (first | apply Kd.R_alloc | apply Kd.R_drewN | apply Kd.R_drew)); exact HO107.out) hb); have n2_ := Aside0.mk (Kd.R_lower (Kd.R_new' ho0 (Kd.R_lt (by (with_reducible repeat (first | apply Kd.R_alloc | apply Kd.R_drewN | apply Kd.R_drew)); exact HO104.out))) (below_size (by repeat (first | (with_reducible first | exact HB.out | apply below_alloc | apply pw_below_drewN | apply below_drew1) | exact HB.out)))); have n3_ := Aside0.mk (below_step (by repeat (first | (with_reducible first | exact HB.out | apply below_alloc | apply pw_below_drewN | apply below_drew1) | exact HB.out)) hb); clear HO104; clear HO107; clear HB; have HO104 := n0_; have HO107 := n1_; have HO111 := n2_; have HB := n3_; clear n0_ n1_ n2_ n3_; (try clear hb); (try clear hb2); (try clear hk); (try clear hi); (try clear ho0)) | ((with_reducible refine gate_callee (f := 45) rfl ?_); refine goesL_ (some 26) rfl rfl Try.func45 (by kernel_rfl) rfl #[.slice A1 l1.length c1] rfl (by (try simp only [List.map_toArray, List.map_cons, List.map_nil]); first | done | rfl | (simp only [List.length_drop, List.length_take]; rfl)) ?_; (with_reducible refine (laws_toInt64S.calls k _ _ l1 t112 _ ?side1 ?side2 A12.out).mono ?_); (case side1 => repeat (first | exact (Kd.C_below HR1.out HB.out) | (with_reducible refine Kd.C_alloc ?_ _) | (with_reducible refine Kd.C_drewN ?_ _) | (with_reducible refine Kd.C_drew ?_))); (case side2 => exact HC1.out); rintro e w20 ⟨v113, rfl, ho0, hb⟩; refine ⟨_, rfl, ?_⟩; have n0_ := Aside0.mk (Kd.R_below (by (with_reducible repeat (first | apply Kd.R_alloc | apply Kd.R_drewN | apply Kd.R_drew)); exact HO104.out) hb); have n1_ := Aside0.mk (Kd.R_elder' (by (with_reducible repeat (first | apply Kd.R_alloc | apply Kd.R_drewN | apply Kd.R_drew)); exact HO107.out) (Kd.R_base ho0) hb); have n2_ := Aside0.mk (Kd.R_below (by (with_reducible repeat (first | apply Kd.R_alloc | apply Kd.R_drewN | apply Kd.R_drew)); exact HO111.out) hb); have n3_ := Aside0.mk (Kd.R_lower (Kd.R_new' ho0 (Kd.R_lt (by (with_reducible repeat (first | apply Kd.R_alloc | apply Kd.R_drewN | apply Kd.R_drew)); exact HO107.out))) (below_size (by repeat (first | (with_reducible first | exact HB.out | apply below_alloc | apply pw_below_drewN | apply below_drew1) | exact HB.out)))); have n4_ := Aside0.mk (below_step (by repeat (first | (with_reducible first | exact HB.out | apply below_alloc | apply pw_below_drewN | apply below_drew1) | exact HB.out)) hb); clear HO104; clear HO107; clear HO111; clear HB; have HO104 := n0_; have HO107 := n1_; have HO111 := n2_; have HO114 := n3_; have HB := n4_; clear n0_ n1_ n2_ n3_ n4_; (try clear hb); (try clear hb2); (try clear hk); (try clear hi); (try clear ho0); obtain ⟨Ao21, co21, eo21⟩ := Kd.R_slice HO111.out; subst eo21; obtain ⟨Ao22, co22, eo22⟩ := Kd.R_slice HO114.out; subst eo22) | ((with_reducible refine gate_callee (f := 46) rfl ?_); refine goesL_ (some 29) rfl rfl Try.func46 (by kernel_rfl) rfl #[.slice Ao21 t109.length co21, .slice Ao22 t112.length co22] rfl (by (try simp only [List.map_toArray, List.map_cons, List.map_nil]); first | done | rfl | (simp only [List.length_drop, List.length_take]; rfl)) ?_; (with_reducible refine (impl_SetFault.calls k _ _ t109 _ _ t112 t115 _ ?side1 ?side2 ?side3 ?side4 A13.out).mono ?_); (case side1 => repeat (first | exact (Kd.R_reads' HO111.out).2.2 | (with_reducible refine Kd.C_alloc ?_ _) | (with_reducible refine Kd.C_drewN ?_ _) | (with_reducible refine Kd.C_drew ?_))); (case side2 => exact (Kd.R_reads' HO111.out).2.1); (case side3 => repeat (first | exact (Kd.R_reads' HO114.out).2.2 | (with_reducible refine Kd.C_alloc ?_ _) | (with_reducible refine Kd.C_drewN ?_ _) | (with_reducible refine Kd.C_drew ?_))); (case side4 => exact (Kd.R_reads' HO114.out).2.1); rintro e w23 ⟨rfl, hb⟩; refine ⟨_, rfl, ?_⟩; have n0_ := Aside0.mk (Kd.R_below (by (with_reducible repeat (first | apply Kd.R_alloc | apply Kd.R_drewN | apply Kd.R_drew)); exact HO104.out) hb); have n1_ := Aside0.mk (Kd.R_below (by (with_reducible repeat (first | apply Kd.R_alloc | apply Kd.R_drewN | apply Kd.R_drew)); exact HO107.out) hb); have n2_ := Aside0.mk (Kd.R_below (by (with_reducible repeat (first | apply Kd.R_alloc | apply Kd.R_drewN | apply Kd.R_drew)); exact HO111.out) hb); have n3_ := Aside0.mk (Kd.R_below (by (with_reducible repeat (first | apply Kd.R_alloc | apply Kd.R_drewN | apply Kd.R_drew)); exact HO114.out) hb); have n4_ := Aside0.mk (below_step (by repeat (first | (with_reducible first | exact HB.out | apply below_alloc | apply pw_below_drewN | apply below_drew1) | exact HB.out)) hb); clear HO104; clear HO107; clear HO111; clear HO114; clear HB; have HO104 := n0_; have HO107 := n1_; have HO111 := n2_; have HO114 := n3_; have HB := n4_; clear n0_ n1_ n2_ n3_ n4_; (try clear hb); (try clear hb2); (try clear hk); (try clear hi)))
      (try simp only [Act.put, List.setIfInBounds_toArray, List.set_cons_zero, List.set_cons_succ])
      have H := HC14.out
      clear HC14
      by_cases c24 : t115 = t108
      · rw [if_pos c24] at H
        have c24b0 : (t115 == t108) = true := beq_iff_eq.mpr c24
        have c24b1 : (t115 != t108) = false := bne_eq_false_iff_eq.mpr c24
        clear c24
        (first | rw [c24b0] | (simp only [i64_w, i32_w]; rw [c24b0]) | skip)
        replace H := Option.bind_eq_some_iff.mp H
        obtain ⟨t116, A250, H⟩ := H
        replace H : ((laws_eqInstS.f k t109 t116).bind fun t119 => (if t119 = true then ((laws_toInt64S.f k l1).bind fun t120 => ((laws_eqInt64S.f k t112 t120).bind fun t123 => (if t123 = true then (some true) else (some false)))) else (some false))) = some r := H
        have A25 := Aside0.mk A250
        clear A250
        replace H := Option.bind_eq_some_iff.mp H
        obtain ⟨t119, A260, H⟩ := H
        replace H : (if t119 = true then ((laws_toInt64S.f k l1).bind fun t120 => ((laws_eqInt64S.f k t112 t120).bind fun t123 => (if t123 = true then (some true) else (some false)))) else (some false)) = some r := H
        have A26 := Aside0.mk A260
        clear A260
        have HC27 := Aside0.mk H
        clear H
        go_upto_if 37 with (first | ((with_reducible refine gate_callee (f := 41) rfl ?_); refine goesL_ (some 35) rfl rfl Try.func41 (by kernel_rfl) rfl #[.slice A0 l0.length c0] rfl (by (try simp only [List.map_toArray, List.map_cons, List.map_nil]); first | done | rfl | (simp only [List.length_drop, List.length_take]; rfl)) ?_; (with_reducible refine (laws_toInstS.calls k _ _ l0 t116 _ ?side1 ?side2 A25.out).mono ?_); (case side1 => repeat (first | exact (Kd.C_below HR0.out HB.out) | (with_reducible refine Kd.C_alloc ?_ _) | (with_reducible refine Kd.C_drewN ?_ _) | (with_reducible refine Kd.C_drew ?_))); (case side2 => exact HC0.out); rintro e w28 ⟨v117, rfl, ho0, hb⟩; refine ⟨_, rfl, ?_⟩; have n0_ := Aside0.mk (Kd.R_elder' (by (with_reducible repeat (first | apply Kd.R_alloc | apply Kd.R_drewN | apply Kd.R_drew)); exact HO104.out) (Kd.R_base ho0) hb); have n1_ := Aside0.mk (Kd.R_below (by (with_reducible repeat (first | apply Kd.R_alloc | apply Kd.R_drewN | apply Kd.R_drew)); exact HO107.out) hb); have n2_ := Aside0.mk (Kd.R_elder' (by (with_reducible repeat (first | apply Kd.R_alloc | apply Kd.R_drewN | apply Kd.R_drew)); exact HO111.out) (Kd.R_base ho0) hb); have n3_ := Aside0.mk (Kd.R_below (by (with_reducible repeat (first | apply Kd.R_alloc | apply Kd.R_drewN | apply Kd.R_drew)); exact HO114.out) hb); have n4_ := Aside0.mk (Kd.R_lower (Kd.R_new' (Kd.R_new' ho0 (Kd.R_lt (by (with_reducible repeat (first | apply Kd.R_alloc | apply Kd.R_drewN | apply Kd.R_drew)); exact HO104.out))) (Kd.R_lt (by (with_reducible repeat (first | apply Kd.R_alloc | apply Kd.R_drewN | apply Kd.R_drew)); exact HO111.out))) (below_size (by repeat (first | (with_reducible first | exact HB.out | apply below_alloc | apply pw_below_drewN | apply below_drew1) | exact HB.out)))); have n5_ := Aside0.mk (below_step (by repeat (first | (with_reducible first | exact HB.out | apply below_alloc | apply pw_below_drewN | apply below_drew1) | exact HB.out)) hb); clear HO104; clear HO107; clear HO111; clear HO114; clear HB; have HO104 := n0_; have HO107 := n1_; have HO111 := n2_; have HO114 := n3_; have HO118 := n4_; have HB := n5_; clear n0_ n1_ n2_ n3_ n4_ n5_; (try clear hb); (try clear hb2); (try clear hk); (try clear hi); (try clear ho0); obtain ⟨Ao29, co29, eo29⟩ := Kd.R_slice HO118.out; subst eo29) | ((with_reducible refine gate_callee (f := 43) rfl ?_); refine goesL_ (some 36) rfl rfl Try.func43 (by kernel_rfl) rfl #[.slice Ao21 t109.length co21, .slice Ao29 t116.length co29] rfl (by (try simp only [List.map_toArray, List.map_cons, List.map_nil]); first | done | rfl | (simp only [List.length_drop, List.length_take]; rfl)) ?_; (with_reducible refine (laws_eqInstS.calls k _ _ t109 _ _ t116 t119 _ ?side1 ?side2 ?side3 ?side4 A26.out).mono ?_); (case side1 => repeat (first | exact (Kd.R_reads' HO111.out).2.2 | (with_reducible refine Kd.C_alloc ?_ _) | (with_reducible refine Kd.C_drewN ?_ _) | (with_reducible refine Kd.C_drew ?_))); (case side2 => exact (Kd.R_reads' HO111.out).2.1); (case side3 => repeat (first | exact (Kd.R_reads' HO118.out).2.2 | (with_reducible refine Kd.C_alloc ?_ _) | (with_reducible refine Kd.C_drewN ?_ _) | (with_reducible refine Kd.C_drew ?_))); (case side4 => exact (Kd.R_reads' HO118.out).2.1); rintro e w30 ⟨rfl, hb⟩; refine ⟨_, rfl, ?_⟩; have n0_ := Aside0.mk (Kd.R_below (by (with_reducible repeat (first | apply Kd.R_alloc | apply Kd.R_drewN | apply Kd.R_drew)); exact HO104.out) hb); have n1_ := Aside0.mk (Kd.R_below (by (with_reducible repeat (first | apply Kd.R_alloc | apply Kd.R_drewN | apply Kd.R_drew)); exact HO107.out) hb); have n2_ := Aside0.mk (Kd.R_below (by (with_reducible repeat (first | apply Kd.R_alloc | apply Kd.R_drewN | apply Kd.R_drew)); exact HO111.out) hb); have n3_ := Aside0.mk (Kd.R_below (by (with_reducible repeat (first | apply Kd.R_alloc | apply Kd.R_drewN | apply Kd.R_drew)); exact HO114.out) hb); have n4_ := Aside0.mk (Kd.R_below (by (with_reducible repeat (first | apply Kd.R_alloc | apply Kd.R_drewN | apply Kd.R_drew)); exact HO118.out) hb); have n5_ := Aside0.mk (below_step (by repeat (first | (with_reducible first | exact HB.out | apply below_alloc | apply pw_below_drewN | apply below_drew1) | exact HB.out)) hb); clear HO104; clear HO107; clear HO111; clear HO114; clear HO118; clear HB; have HO104 := n0_; have HO107 := n1_; have HO111 := n2_; have HO114 := n3_; have HO118 := n4_; have HB := n5_; clear n0_ n1_ n2_ n3_ n4_ n5_; (try clear hb); (try clear hb2); (try clear hk); (try clear hi)))
        (try simp only [Act.put, List.setIfInBounds_toArray, List.set_cons_zero, List.set_cons_succ])
        have H := HC27.out
        clear HC27
        by_cases c31 : t119 = true
        · subst c31
          have H1 : ((laws_toInt64S.f k l1).bind fun t120 => ((laws_eqInt64S.f k t112 t120).bind fun t123 => (if t123 = true then (some true) else (some false)))) = some r := by rw [if_pos rfl] at H; exact H
          clear H
          have H := H1
          clear H1
          replace H := Option.bind_eq_some_iff.mp H
          obtain ⟨t120, A320, H⟩ := H
          replace H : ((laws_eqInt64S.f k t112 t120).bind fun t123 => (if t123 = true then (some true) else (some false))) = some r := H
          have A32 := Aside0.mk A320
          clear A320
          replace H := Option.bind_eq_some_iff.mp H
          obtain ⟨t123, A330, H⟩ := H
          replace H : (if t123 = true then (some true) else (some false)) = some r := H
          have A33 := Aside0.mk A330
          clear A330
          have HC34 := Aside0.mk H
          clear H
          go_upto_if 42 with (first | ((with_reducible refine gate_callee (f := 45) rfl ?_); refine goesL_ (some 40) rfl rfl Try.func45 (by kernel_rfl) rfl #[.slice A1 l1.length c1] rfl (by (try simp only [List.map_toArray, List.map_cons, List.map_nil]); first | done | rfl | (simp only [List.length_drop, List.length_take]; rfl)) ?_; (with_reducible refine (laws_toInt64S.calls k _ _ l1 t120 _ ?side1 ?side2 A32.out).mono ?_); (case side1 => repeat (first | exact (Kd.C_below HR1.out HB.out) | (with_reducible refine Kd.C_alloc ?_ _) | (with_reducible refine Kd.C_drewN ?_ _) | (with_reducible refine Kd.C_drew ?_))); (case side2 => exact HC1.out); rintro e w35 ⟨v121, rfl, ho0, hb⟩; refine ⟨_, rfl, ?_⟩; have n0_ := Aside0.mk (Kd.R_below (by (with_reducible repeat (first | apply Kd.R_alloc | apply Kd.R_drewN | apply Kd.R_drew)); exact HO104.out) hb); have n1_ := Aside0.mk (Kd.R_elder' (by (with_reducible repeat (first | apply Kd.R_alloc | apply Kd.R_drewN | apply Kd.R_drew)); exact HO107.out) (Kd.R_base ho0) hb); have n2_ := Aside0.mk (Kd.R_below (by (with_reducible repeat (first | apply Kd.R_alloc | apply Kd.R_drewN | apply Kd.R_drew)); exact HO111.out) hb); have n3_ := Aside0.mk (Kd.R_elder' (by (with_reducible repeat (first | apply Kd.R_alloc | apply Kd.R_drewN | apply Kd.R_drew)); exact HO114.out) (Kd.R_base ho0) hb); have n4_ := Aside0.mk (Kd.R_below (by (with_reducible repeat (first | apply Kd.R_alloc | apply Kd.R_drewN | apply Kd.R_drew)); exact HO118.out) hb); have n5_ := Aside0.mk (Kd.R_lower (Kd.R_new' (Kd.R_new' ho0 (Kd.R_lt (by (with_reducible repeat (first | apply Kd.R_alloc | apply Kd.R_drewN | apply Kd.R_drew)); exact HO107.out))) (Kd.R_lt (by (with_reducible repeat (first | apply Kd.R_alloc | apply Kd.R_drewN | apply Kd.R_drew)); exact HO114.out))) (below_size (by repeat (first | (with_reducible first | exact HB.out | apply below_alloc | apply pw_below_drewN | apply below_drew1) | exact HB.out)))); have n6_ := Aside0.mk (below_step (by repeat (first | (with_reducible first | exact HB.out | apply below_alloc | apply pw_below_drewN | apply below_drew1) | exact HB.out)) hb); clear HO104; clear HO107; clear HO111; clear HO114; clear HO118; clear HB; have HO104 := n0_; have HO107 := n1_; have HO111 := n2_; have HO114 := n3_; have HO118 := n4_; have HO122 := n5_; have HB := n6_; clear n0_ n1_ n2_ n3_ n4_ n5_ n6_; (try clear hb); (try clear hb2); (try clear hk); (try clear hi); (try clear ho0); obtain ⟨Ao36, co36, eo36⟩ := Kd.R_slice HO122.out; subst eo36) | ((with_reducible refine gate_callee (f := 47) rfl ?_); refine goesL_ (some 41) rfl rfl Try.func47 (by kernel_rfl) rfl #[.slice Ao22 t112.length co22, .slice Ao36 t120.length co36] rfl (by (try simp only [List.map_toArray, List.map_cons, List.map_nil]); first | done | rfl | (simp only [List.length_drop, List.length_take]; rfl)) ?_; (with_reducible refine (laws_eqInt64S.calls k _ _ t112 _ _ t120 t123 _ ?side1 ?side2 ?side3 ?side4 A33.out).mono ?_); (case side1 => repeat (first | exact (Kd.R_reads' HO114.out).2.2 | (with_reducible refine Kd.C_alloc ?_ _) | (with_reducible refine Kd.C_drewN ?_ _) | (with_reducible refine Kd.C_drew ?_))); (case side2 => exact (Kd.R_reads' HO114.out).2.1); (case side3 => repeat (first | exact (Kd.R_reads' HO122.out).2.2 | (with_reducible refine Kd.C_alloc ?_ _) | (with_reducible refine Kd.C_drewN ?_ _) | (with_reducible refine Kd.C_drew ?_))); (case side4 => exact (Kd.R_reads' HO122.out).2.1); rintro e w' ⟨rfl, ⟨nd, rfl⟩⟩; refine ⟨_, rfl, ?_⟩))
          (try simp only [Act.put, List.setIfInBounds_toArray, List.set_cons_zero, List.set_cons_succ])
          have H := HC34.out
          clear HC34
          by_cases c37 : t123 = true
          · subst c37
            have H1 : (some true) = some r := by rw [if_pos rfl] at H; exact H
            clear H
            have H := H1
            clear H1
            obtain rfl := Option.some.inj H
            go_wp2
            go_ret
            exact ⟨by first | rfl | (simp [errW_none, errW_some] <;> rfl) | (simp [*, errW_none, errW_some] <;> rfl), by repeat (first | (with_reducible first | exact HB.out | apply below_alloc | apply pw_below_drewN | apply below_drew1) | exact HB.out)⟩
          · replace c37 := Bool.eq_false_iff.mpr c37
            subst c37
            have H1 : (some false) = some r := by rw [if_neg (show ¬ (false = true) by decide)] at H; exact H
            clear H
            have H := H1
            clear H1
            obtain rfl := Option.some.inj H
            go_wp2
            go_ret
            exact ⟨by first | rfl | (simp [errW_none, errW_some] <;> rfl) | (simp [*, errW_none, errW_some] <;> rfl), by repeat (first | (with_reducible first | exact HB.out | apply below_alloc | apply pw_below_drewN | apply below_drew1) | exact HB.out)⟩
        · replace c31 := Bool.eq_false_iff.mpr c31
          subst c31
          have H1 : (some false) = some r := by rw [if_neg (show ¬ (false = true) by decide)] at H; exact H
          clear H
          have H := H1
          clear H1
          obtain rfl := Option.some.inj H
          go_wp2
          go_ret
          exact ⟨by first | rfl | (simp [errW_none, errW_some] <;> rfl) | (simp [*, errW_none, errW_some] <;> rfl), by repeat (first | (with_reducible first | exact HB.out | apply below_alloc | apply pw_below_drewN | apply below_drew1) | exact HB.out)⟩
      · rw [if_neg c24] at H
        have c24b0 : (t115 == t108) = false := beq_eq_false_iff_ne.mpr c24
        have c24b1 : (t115 != t108) = true := bne_iff_ne.mpr c24
        (first | rw [c24b0] | (simp only [i64_w, i32_w]; rw [c24b0]) | skip)
        obtain rfl := Option.some.inj H
        go_wp2
        go_ret
        exact ⟨by first | rfl | (simp [errW_none, errW_some] <;> rfl) | (simp [*, errW_none, errW_some] <;> rfl), by repeat (first | (with_reducible first | exact HB.out | apply below_alloc | apply pw_below_drewN | apply below_drew1) | exact HB.out)⟩

end Go.Proofs.Ytjnmhpldabbeiaa.Q
end
section
namespace Go.Proofs.Ytjnmhpldabbeiaa.SetFault
open Go.RowKit Go.Proofs.Ytjnmhpldabbeiaa.Q Go.Proofs.YtjnmhpldabbeiaaW.PrintWords Go.Proofs.YtjnmhpldabbeiaaW.PrintLast Go.Proofs.YtjnmhpldabbeiaaW.PrintMore Go.Proofs.Ytjnmhpldabbeiaa.L
def plcFrom (n : Int) (l : List Int) : Nat → Nat → Int
  | 0, _ => 0
  | d + 1, i => if inb (rd l (i : Int)) 0 (n - 1) = true then (if (i : Int) > 0 ∧ rd l (i : Int) ≤ rd l ((i : Int) - 1) then 3 else plcFrom n l d (i + 1)) else 3
def set7 (p : List S134) (l : List Int) : Int := if prog7 p = 0 then (if (l.length : Int) > 80 then 2 else plcFrom p.length l l.length 0) else prog7 p
theorem i_places (p : List S134) (hp : p.length ≤ 1048576) (l : List Int) (hl : l.length ≤ 80) : ∀ (d i : Nat), l.length - i = d → i ≤ l.length → Ev (fun k => impl_placesFault.l0 k p l l (l.length : Int) (i : Int)) (plcFrom p.length l d i) := by
  intro d
  induction d with
  | zero =>
    intro i hd hi
    refine Ev.succ ?_
    simp only [impl_placesFault.l0]
    exact Ev.neg (by omega) (Ev.now _)
  | succ d ih =>
    intro i hd hi
    have IH := ih (i + 1) (by omega) (by omega)
    clear ih
    refine Ev.succ ?_
    have w1 : wrap64 ((i : Int) - 1) = (i : Int) - 1 := w64 (by omega) (by omega)
    have w2 : wrap64 ((i : Int) + 1) = ((i + 1 : Nat) : Int) := w64 (by omega) (by omega)
    have w3 : wrap64 ((p.length : Int) - 1) = (p.length : Int) - 1 := w64 (by omega) (by omega)
    simp only [impl_placesFault.l0, w1, w2, w3, plcFrom]
    refine Ev.pos (by omega) (Ev.pos (by omega) (Ev.pos (by omega) (Ev.bind0 (iin_eq _ _ _) ?_)))
    by_cases h1 : inb (rd l (i : Int)) 0 ((p.length : Int) - 1) = true
    · rw [if_pos h1]
      refine Ev.pos h1 ?_
      by_cases h2 : (i : Int) > 0
      · refine Ev.pos h2 (Ev.pos (by omega) (Ev.pos (by omega) ?_))
        by_cases h3 : rd l (i : Int) ≤ rd l ((i : Int) - 1)
        · rw [if_pos ⟨h2, h3⟩]
          exact Ev.pos h3 (Ev.now _)
        · rw [if_neg (fun h => h3 h.2)]
          exact Ev.neg h3 IH
      · rw [if_neg (fun h => h2 h.1)]
        exact Ev.neg h2 IH
    · rw [if_neg h1]
      exact Ev.neg h1 (Ev.now _)
theorem s_places (p : List S134) (hp : p.length ≤ 1048576) (l : List Int) (hl : l.length ≤ 80) : ∀ (d i : Nat), l.length - i = d → i ≤ l.length → Ev (fun k => spec_l7Set.l0 k p l (i : Int)) (plcFrom p.length l d i) := by
  intro d
  induction d with
  | zero =>
    intro i hd hi
    refine Ev.succ ?_
    simp only [spec_l7Set.l0]
    exact Ev.neg (by omega) (Ev.now _)
  | succ d ih =>
    intro i hd hi
    have IH := ih (i + 1) (by omega) (by omega)
    clear ih
    refine Ev.succ ?_
    have w1 : wrap64 ((i : Int) - 1) = (i : Int) - 1 := w64 (by omega) (by omega)
    have w2 : wrap64 ((i : Int) + 1) = ((i + 1 : Nat) : Int) := w64 (by omega) (by omega)
    have w3 : wrap64 ((p.length : Int) - 1) = (p.length : Int) - 1 := w64 (by omega) (by omega)
    simp only [spec_l7Set.l0, w1, w2, w3, plcFrom]
    refine Ev.pos (by omega) (Ev.pos (by omega) (Ev.bind0 (inb_eq _ _ _) ?_))
    by_cases h1 : inb (rd l (i : Int)) 0 ((p.length : Int) - 1) = true
    · rw [if_pos h1]
      refine Ev.pos h1 ?_
      by_cases h2 : (i : Int) > 0
      · refine Ev.pos h2 (Ev.pos (by omega) (Ev.pos (by omega) ?_))
        by_cases h3 : rd l (i : Int) ≤ rd l ((i : Int) - 1)
        · rw [if_pos ⟨h2, h3⟩]
          exact Ev.pos h3 (Ev.now _)
        · rw [if_neg (fun h => h3 h.2)]
          exact Ev.neg h3 IH
      · rw [if_neg (fun h => h2 h.1)]
        exact Ev.neg h2 IH
    · rw [if_neg h1]
      exact Ev.neg h1 (Ev.now _)
theorem i_set (p : List S134) (hp : p.length ≤ 1048576) (hs : ∀ i ∈ p, i.f1.f2.size ≤ 1048576) (l : List Int) : Ev (fun k => impl_SetFault.f k p l) (set7 p l) := by
  unfold impl_SetFault.f set7
  refine Ev.bind (i_prog p hs) ?_
  by_cases h : prog7 p = 0
  · rw [if_pos h]
    refine Ev.pos h ?_
    unfold impl_placesFault.f
    by_cases h2 : (l.length : Int) > 80
    · rw [if_pos h2]
      exact Ev.bind (Ev.pos h2 (Ev.now _)) (Ev.now _)
    · rw [if_neg h2]
      exact Ev.bind (Ev.neg h2 (i_places p hp l (by omega) l.length 0 rfl (by omega))) (Ev.now _)
  · rw [if_neg h]
    exact Ev.neg h (Ev.now _)
theorem s_set (p : List S134) (hp : p.length ≤ 1048576) (hs : ∀ i ∈ p, i.f1.f2.size ≤ 1048576) (l : List Int) : Ev (fun k => spec_SetFault.f k p l) (set7 p l) := by
  have h7 : spec_l7Fault.f p = some (prog7 p) := by
    unfold spec_l7Fault.f
    rw [if_pos (show small7 p = true from List.all_eq_true.mpr fun i hi => decide_eq_true (hs i hi))]
  unfold spec_SetFault.f spec_l7Set.f set7
  refine Ev.bind (Ev.bind0 h7 ?_) (Ev.now _)
  by_cases h : prog7 p = 0
  · rw [if_pos h]
    refine Ev.pos h ?_
    by_cases h2 : (l.length : Int) > 80
    · rw [if_pos h2]
      exact Ev.pos h2 (Ev.now _)
    · rw [if_neg h2]
      exact Ev.neg h2 (s_places p hp l (by omega) l.length 0 rfl (by omega))
  · rw [if_neg h]
    exact Ev.neg h (Ev.now _)
theorem pure_law (l : List S131) (s : List Int) (hl : l.length ≤ maxLen) (hz : ∀ i ∈ l, i.f1.f2.size ≤ maxLen) : ∃ k, laws_FnExactSetFault.f k l s = some true := by
  refine Ev.rounds ?_
  unfold maxLen at hl hz
  unfold laws_FnExactSetFault.f
  by_cases hq : (s.length : Int) > 1048576
  · exact Ev.pos hq (Ev.now _)
  refine Ev.neg hq ?_
  have hQ : s.length ≤ 1048576 := by omega
  refine Ev.bind (laws_szInstS.ev l (by omega) (fun i hi => by have := hz i hi; omega)) ?_
  by_cases hn : szInsts l < 0
  · exact Ev.pos hn (Ev.now _)
  refine Ev.neg hn ?_
  have hL : l.length ≤ 1048576 := by
    unfold szInsts at hn
    split at hn
    · exact absurd (by decide) hn
    · omega
  have hS : ∀ i ∈ l, (i.f1.f2.size : Int) ≤ 1048576 - l.length := by
    unfold szInsts at hn
    split at hn
    · exact absurd (by decide) hn
    · exact szFrom_small l _ (by omega)
  have hM : ∀ i ∈ l.map cvInst, i.f1.f2.size ≤ 1048576 := by
    intro i hi
    obtain ⟨j, hj, rfl⟩ := List.mem_map.mp hi
    have := hS j hj
    simp only [cvInst]
    omega
  have hML : (l.map cvInst).length ≤ 1048576 := by simpa using hL
  refine Ev.bind (laws_toInstS.ev l hL) (Ev.bind (laws_toInt64S.ev s hQ) (Ev.bind (s_set _ hML hM s) (Ev.bind (laws_toInstS.ev l hL) (Ev.bind (laws_toInt64S.ev s hQ) (Ev.bind (i_set _ hML hM s) (Ev.pos rfl ?_))))))
  refine Ev.bind (laws_toInstS.ev l hL) (Ev.bind (laws_eqInstS.ev _ (by omega)) (Ev.pos rfl ?_))
  exact Ev.bind (laws_toInt64S.ev s hQ) (Ev.bind (laws_eqInt64S.ev s (by omega)) (Ev.pos rfl (Ev.now _)))
theorem law_walk (A : Option Addr) (c : Nat) (l : List S131) (B : Option Addr) (e : Nat) (s : List Int) (w : World) (hR : M.Row eLInst 8 w A l) (hz : ∀ i ∈ l, i.f1.f2.size ≤ maxLen) (hc : l.length ≤ c) (hm : c ≤ maxLen) (hS : M.Row (fun x => [Value.int .i64 x]) 1 w B s) (he : s.length ≤ e) (hn : e ≤ maxLen) :
    Calls Try.prog 9 #[.slice A l.length c, .slice B s.length e] w fun e w' => e = .returned (.bool true) ∧ Below w.heap.size w w' := by
  obtain ⟨k, h⟩ := pure_law l s (by omega) hz
  exact laws_FnExactSetFault.calls k A c l B e s true w (C_linst (by unfold maxLen at hm; omega) hR) hc (M.C_ints (by unfold maxLen at hn; omega) hS) he h
open Go.ChangeShapes Go.WideShapes Go.ChangeAt Go.Proofs.Ytjnmhpldabbeiaa.M
theorem el_i64 {H : Type} {enc : TypeId × Value → H} {w : World} {base : Nat} {spare : Nat → Bool} {held : Bool} {fuel : Nat} {cs : List Value} {x : DataW H × List MemPlace} (h : DataW.trod enc Try.prog w base spare held fuel 2 cs = some x) : ∃ y : Int, cs = [Value.int .i64 y] ∧ True := by
  obtain ⟨a, ea, _, _⟩ := DataW.trod_int Try.underlying2 h
  exact ⟨a, ea, trivial⟩
set_option maxRecDepth 100000 in
theorem lifted (os : Os) (started : os.Started) (H : Type) (enc : TypeId × Value → H) :
    ReturnsInHanded {} Try.checked os 9 .any (Rows.fnExactSetFaultSpec.pre6 enc Try.prog Try.f9 Rows.fnExactSetFaultRow.domain false) (Rows.fnExactSetFaultSpec.post enc Try.prog Try.f9 false true false false) := by
  refine returnsInHanded_of_change (C := Try.checked) own_knob started (by kernel_rfl) Try.func9
    (ChangeSpec.witness6 (enc := enc) (C := Try.checked) false ⟨#[], #[.slice none 0 0, .slice none 0 0], []⟩ 8 (by kernel_rfl) (by kernel_rfl) (by kernel_rfl) (by kernel_rfl)) ?_
  intro W base args ds gs before hval0 hW hcnd _
  have hval : ∀ (j : Nat) t v, (Try.f9).params[j]? = some t → args[j]? = some v → Value.okWide Try.prog W .any base t v := hval0
  have hW' := hW
  obtain ⟨p, q, hA0, hV, rfl, hfz, hnd⟩ := hW
  have hA : DataW.TrodAll enc Try.prog W 0 (fun _ => true) true (Try.f9).params.toList args.toList ds p := hA0
  rw [Try.params9] at hA hval
  obtain ⟨v0, vs0, d0, ds0, p0, q0, hargs, rfl, rfl, h0, r0⟩ := trodAll_cons hA
  obtain ⟨v1, vs1, d1, ds1, p1, q1, rfl, rfl, rfl, h1, r1⟩ := trodAll_cons r0
  obtain ⟨rfl, rfl, rfl⟩ := trodAll_nil r1
  obtain rfl : args = #[v0, v1] := by cases args; simp_all
  obtain ⟨A, xs, c, rfl, hc, hm, hR, hG⟩ := open_row_v (encE := eLInst) (G := fun i : S131 => i.f1.f2.size ≤ maxLen) Try.underlying66 cells_linst el_linst (hval 0 _ v0 rfl rfl) h0
  obtain ⟨B, ys, e, rfl, he, hn, hS, _⟩ := open_row_v (encE := fun x : Int => [Value.int .i64 x]) Try.underlying49 cells_int64 el_i64 (hval 1 _ v1 rfl rfl) h1
  obtain ⟨rfl, rfl⟩ := trodVars_none hV
  refine (law_walk A c xs B e ys W hR (fun i hi => by obtain ⟨j, hj, e⟩ := List.getElem_of_mem hi; exact hG j i (by rw [List.getElem?_eq_getElem hj, e])) hc hm hS he hn).mono fun e W' ⟨he, hb⟩ => ?_
  subst he
  exact ⟨_, rfl, law_post laid_out Try.underlying4 rfl rfl (by kernel_rfl) hW' hb ⟨rfl, rfl, rfl⟩⟩
theorem over : Rows.fnExactSetFaultRow.holds Try.pinned (OpenSpec.ofChange Rows.fnExactSetFaultSpec) :=
  OpenClaim.holds_of_wide 9 Try.f9 rfl rfl rfl rfl rfl rfl rfl ⟨rfl, rfl, rfl, rfl, rfl⟩ rfl rfl rfl rfl rfl (by kernel_rfl) Try.func9 (by kernel_rfl)
    (of_decide_eq_true (by kernel_rfl)) (by unfold Func.isWrapper; first | (rw [if_pos (by decide +kernel)]; kernel_rfl) | (rw [if_neg (by decide +kernel)]; exact ⟨rfl, rfl⟩))
    (fun os started H enc _ => lifted os started H enc)
theorem proved : Rows.FnExactSetFaultSaid := over
end Go.Proofs.Ytjnmhpldabbeiaa.SetFault
end
