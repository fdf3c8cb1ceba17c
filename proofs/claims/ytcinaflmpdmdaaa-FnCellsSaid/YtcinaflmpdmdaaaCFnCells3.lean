/- FnCells. -/
import Derived.Test.YtcinaflmpdmdaaaWWords
import Derived.Test.YtcinaflmpdmdaaaWMore
import Derived.Test.YtcinaflmpdmdaaaCFnCells0
import Derived.Test.YtcinaflmpdmdaaaCFnCells1
import Derived.Test.YtcinaflmpdmdaaaCFnCells2
import Derived.Test.YtcinaflmpdmdaaaRows
import Derived.WalkKit
import Derived.ProofKit
import Derived.OpenShut
import Derived.ShutString
import Derived.ChangeOld
import Derived.Below
import Derived.SizedLaws
import Derived.Test.YtcinaflmpdmdaaaWSized
set_option linter.unusedVariables false
set_option linter.unusedSimpArgs false
section
namespace Go.Proofs.Ytcinaflmpdmdaaa.L
open Go.RowKit Go.Proofs.YtcinaflmpdmdaaaW.PrintWords Go.Proofs.YtcinaflmpdmdaaaW.PrintLast Go.Proofs.YtcinaflmpdmdaaaW.PrintMore
theorem w64 {x : Int} (h0 : -9223372036854775808 ≤ x) (h1 : x ≤ 9223372036854775807) : wrap64 x = x := by unfold wrap64; omega
theorem len1 {α : Type} : ∀ {l : List α}, l.length = 1 → ∃ a, l = [a] | [a], _ => ⟨a, rfl⟩
theorem len2 {α : Type} : ∀ {l : List α}, l.length = 2 → ∃ a b, l = [a, b] | [a, b], _ => ⟨a, b, rfl⟩
theorem len3 {α : Type} : ∀ {l : List α}, l.length = 3 → ∃ a b c, l = [a, b, c] | [a, b, c], _ => ⟨a, b, c, rfl⟩
theorem len5 {α : Type} : ∀ {l : List α}, l.length = 5 → ∃ a b c d e, l = [a, b, c, d, e] | [a, b, c, d, e], _ => ⟨a, b, c, d, e, rfl⟩
theorem len8 {α : Type} : ∀ {l : List α}, l.length = 8 → ∃ a b c d e f g h, l = [a, b, c, d, e, f, g, h] | [a, b, c, d, e, f, g, h], _ => ⟨a, b, c, d, e, f, g, h, rfl⟩
theorem Ev.succ {α : Type} {g : Nat → Option α} {r : α} (h : Ev (fun k => g (k + 1)) r) : Ev g r := Ev.step (fun _ => rfl) h
theorem Ev.eq {α : Type} {g : Nat → Option α} {r r' : α} (h : Ev g r) (e : r = r') : Ev g r' := e ▸ h
theorem Ev.pos {α : Type} {c : Prop} [Decidable c] {f g : Nat → Option α} {r : α} (hc : c) (h : Ev f r) : Ev (fun k => if c then f k else g k) r := Ev.congr (fun k => if_pos hc) h
theorem Ev.neg {α : Type} {c : Prop} [Decidable c] {f g : Nat → Option α} {r : α} (hc : ¬ c) (h : Ev g r) : Ev (fun k => if c then f k else g k) r := Ev.congr (fun k => if_neg hc) h
/-- A callee without rounds. -/
theorem Ev.bind0 {α β : Type} {o : Option α} {f : Nat → α → Option β} {a : α} {r : β} (h : o = some a) (k : Ev (fun n => f n a) r) : Ev (fun n => o.bind (f n)) r := Ev.congr (fun n => by rw [h]; rfl) k
theorem Ev.bind1 {α β : Type} {g : Nat → Option α} {f : Nat → α → Option β} {a : α} {r : β} (h : Ev g a) (k : Ev (fun n => f n a) r) : Ev (fun n => (g n).bind (f n)) r := Ev.bind h k
theorem Ev.one {α : Type} {o : Option α} {r : α} (h : o = some r) : Ev (fun _ => o) r := ⟨0, fun _ _ => h⟩
theorem rd_nat (l : List Int) (i : Nat) (h : i < l.length) : rd l (i : Int) = l[i] := by simp [rd, List.getD_eq_getElem?_getD, h]
theorem rd_get? {l : List Int} {i : Nat} {x : Int} (h : l[i]? = some x) : rd l (i : Int) = x := by simp [rd, List.getD_eq_getElem?_getD, h]
/-- Copying element by element into as many places. -/
theorem copy_loop {α : Type} (g : Nat → List α → Int → Option (List α)) (xs : List α) (step : ∀ k (ys : List α) (i : Nat) (h : i < xs.length), ys.length = xs.length → g (k + 1) ys i = g k (ys.set i xs[i]) ((i + 1 : Nat) : Int))
    (fin : ∀ k (ys : List α), g (k + 1) ys xs.length = some ys) : ∀ (d i : Nat) (ys : List α), xs.length - i = d → i ≤ xs.length → ys.length = xs.length → Ev (fun k => g k (xs.take i ++ ys.drop i) i) xs
  | 0, i, ys, hd, hi, hl => by
    obtain rfl : i = xs.length := by omega
    refine Ev.succ (Ev.congr (fun k => fin k _) (Ev.one ?_))
    rw [List.take_length, ← hl, List.drop_length, List.append_nil]
  | d + 1, i, ys, hd, hi, hl => by
    have h : i < xs.length := by omega
    refine Ev.succ (Ev.congr (fun k => step k _ i h (by simp; omega)) ?_)
    have := copy_loop g xs step fin d (i + 1) ys (by omega) (by omega) hl
    refine Ev.congr (fun k => ?_) this
    congr 1
    rw [List.set_append_right _ _ (by simp; omega), List.take_succ_eq_append_getElem h, List.append_assoc]
    congr 1
    rw [List.length_take, Nat.min_eq_left (by omega), Nat.sub_self, List.drop_eq_getElem_cons (by omega : i < ys.length), List.set_cons_zero]
    rfl
theorem copy_all {α : Type} (g : Nat → List α → Int → Option (List α)) (xs : List α) (z : α) (step : ∀ k (ys : List α) (i : Nat) (h : i < xs.length), ys.length = xs.length → g (k + 1) ys i = g k (ys.set i xs[i]) ((i + 1 : Nat) : Int))
    (fin : ∀ k (ys : List α), g (k + 1) ys xs.length = some ys) : Ev (fun k => g k (List.replicate xs.length z) 0) xs := by
  have := copy_loop g xs step fin xs.length 0 (List.replicate xs.length z) rfl (by omega) (by simp)
  simpa using this
/-- A loop over places that only goes on. -/
theorem all_loop {β : Type} (g : Nat → Int → Option β) (n : Nat) (r : β) (step : ∀ k (i : Nat), i < n → g (k + 1) i = g k ((i + 1 : Nat) : Int)) (fin : ∀ k, g (k + 1) n = some r) : ∀ (d i : Nat), n - i = d → i ≤ n → Ev (fun k => g k i) r
  | 0, i, hd, hi => by
    obtain rfl : i = n := by omega
    exact Ev.succ (Ev.congr (fun k => fin k) (Ev.now _))
  | d + 1, i, hd, hi => Ev.succ (Ev.congr (fun k => step k i (by omega)) (all_loop g n r step fin d (i + 1) (by omega) (by omega)))
theorem all_all {β : Type} (g : Nat → Int → Option β) (n : Nat) (r : β) (step : ∀ k (i : Nat), i < n → g (k + 1) i = g k ((i + 1 : Nat) : Int)) (fin : ∀ k, g (k + 1) n = some r) : Ev (fun k => g k 0) r := all_loop g n r step fin n 0 rfl (by omega)
/-- The same where a round calls what has rounds of its own. -/
theorem ev_loop {β : Type} (g : Nat → Int → Option β) (n : Nat) (r : β) (step : ∀ (i : Nat), i < n → Ev (fun k => g k ((i + 1 : Nat) : Int)) r → Ev (fun k => g (k + 1) i) r) (fin : Ev (fun k => g (k + 1) n) r) : ∀ (d i : Nat), n - i = d → i ≤ n → Ev (fun k => g k i) r
  | 0, i, hd, hi => by
    obtain rfl : i = n := by omega
    exact Ev.succ fin
  | d + 1, i, hd, hi => Ev.succ (step i (by omega) (ev_loop g n r step fin d (i + 1) (by omega) (by omega)))
theorem ev_all {β : Type} (g : Nat → Int → Option β) (n : Nat) (r : β) (step : ∀ (i : Nat), i < n → Ev (fun k => g k ((i + 1 : Nat) : Int)) r → Ev (fun k => g (k + 1) i) r) (fin : Ev (fun k => g (k + 1) n) r) : Ev (fun k => g k 0) r := ev_loop g n r step fin n 0 rfl (by omega)
/-- Marks: element j gets mk x_j (m + c * j). -/
def marked {α : Type} (mk : α → Int → α) (c : Int) : Int → List α → List α
  | _, [] => []
  | m, x :: xs => mk x m :: marked mk c (m + c) xs
theorem marked_length {α : Type} (mk : α → Int → α) (c : Int) : ∀ (m : Int) (xs : List α), (marked mk c m xs).length = xs.length
  | _, [] => rfl
  | m, x :: xs => by simp [marked, marked_length mk c (m + c) xs]
theorem marked_get {α : Type} (mk : α → Int → α) (c : Int) : ∀ (m : Int) (xs : List α) (j : Nat) (h : j < xs.length), (marked mk c m xs)[j]'(by rw [marked_length]; exact h) = mk xs[j] (m + c * j)
  | m, x :: xs, 0, _ => by simp [marked]
  | m, x :: xs, j + 1, h => by
    simp only [marked, List.getElem_cons_succ]
    rw [marked_get mk c (m + c) xs j (by simpa using h)]
    congr 1
    have : c * ((j + 1 : Nat) : Int) = c * (j : Int) + c := by rw [Int.natCast_add, Int.mul_add]; simp
    omega
theorem mark_loop {α : Type} (g : Nat → List α → Int → Int → Option (Int × List α)) (mk : α → Int → α) (c : Int) (hc : 0 ≤ c) (hc2 : c ≤ 4096) (xs : List α) (m : Int) (hm0 : 0 ≤ m) (hm : m + c * xs.length ≤ 4611686018427387904)
    (step : ∀ k (ys : List α) (i : Nat) (q : Int) (h : i < xs.length) (hl : ys.length = xs.length), ys[i] = xs[i] → 0 ≤ q → q ≤ 4611686018427387904 → g (k + 1) ys q i = g k (ys.set i (mk xs[i] q)) (q + c) ((i + 1 : Nat) : Int))
    (fin : ∀ k (ys : List α) (q : Int), ys.length = xs.length → g (k + 1) ys q xs.length = some (q, ys)) : ∀ (d i : Nat), xs.length - i = d → i ≤ xs.length → Ev (fun k => g k ((marked mk c m xs).take i ++ xs.drop i) (m + c * i) i) (m + c * xs.length, marked mk c m xs)
  | 0, i, hd, hi => by
    obtain rfl : i = xs.length := by omega
    refine Ev.succ (Ev.congr (fun k => fin k _ _ (by simp [marked_length])) (Ev.one ?_))
    rw [List.drop_length, List.append_nil, List.take_of_length_le (by rw [marked_length]; omega)]
  | d + 1, i, hd, hi => by
    have h : i < xs.length := by omega
    have hM : (marked mk c m xs).length = xs.length := marked_length mk c m xs
    have hle : c * (i : Int) ≤ c * (xs.length : Int) := Int.mul_le_mul_of_nonneg_left (by omega) hc
    have hge : 0 ≤ c * (i : Int) := Int.mul_nonneg hc (by omega)
    refine Ev.succ (Ev.congr (fun k => step k _ i _ h (by simp; omega) ?_ (by omega) (by omega)) ?_)
    · rw [List.getElem_append_right (by simp; omega)]
      simp [Nat.min_eq_left (Nat.le_of_lt h), hM, List.length_take]
    · have := mark_loop g mk c hc hc2 xs m hm0 hm step fin d (i + 1) (by omega) (by omega)
      have e : m + c * (i : Int) + c = m + c * ((i + 1 : Nat) : Int) := by rw [Int.natCast_add, Int.mul_add]; simp; omega
      refine Ev.congr (fun k => ?_) this
      rw [e]
      congr 1
      rw [List.set_append_right _ _ (by simp; omega), List.take_succ_eq_append_getElem (by omega : i < (marked mk c m xs).length), List.append_assoc, marked_get mk c m xs i h]
      congr 1
      rw [List.length_take, Nat.min_eq_left (by omega), Nat.sub_self, List.drop_eq_getElem_cons h, List.set_cons_zero]
      rfl
theorem mark_all {α : Type} (g : Nat → List α → Int → Int → Option (Int × List α)) (mk : α → Int → α) (c : Int) (hc : 0 ≤ c) (hc2 : c ≤ 4096) (xs : List α) (m : Int) (hm0 : 0 ≤ m) (hm : m + c * xs.length ≤ 4611686018427387904)
    (step : ∀ k (ys : List α) (i : Nat) (q : Int) (h : i < xs.length) (hl : ys.length = xs.length), ys[i] = xs[i] → 0 ≤ q → q ≤ 4611686018427387904 → g (k + 1) ys q i = g k (ys.set i (mk xs[i] q)) (q + c) ((i + 1 : Nat) : Int))
    (fin : ∀ k (ys : List α) (q : Int), ys.length = xs.length → g (k + 1) ys q xs.length = some (q, ys)) : Ev (fun k => g k xs m 0) (m + c * xs.length, marked mk c m xs) := by
  have := mark_loop g mk c hc hc2 xs m hm0 hm step fin xs.length 0 (by omega) (by omega)
  simpa using this
/-- Held: the marks are found again. -/
theorem held_loop {α : Type} (g : Nat → Int → Int → Option Int) (c : Int) (hc : 0 ≤ c) (n : Nat) (m : Int) (hm0 : 0 ≤ m) (hm : m + c * n ≤ 4611686018427387904)
    (step : ∀ k (i : Nat), i < n → 0 ≤ m + c * i → m + c * i ≤ 4611686018427387904 → g (k + 1) (m + c * i) i = g k (m + c * i + c) ((i + 1 : Nat) : Int)) (fin : ∀ k (q : Int), g (k + 1) q n = some q) : ∀ (d i : Nat), n - i = d → i ≤ n → Ev (fun k => g k (m + c * i) i) (m + c * n)
  | 0, i, hd, hi => by
    obtain rfl : i = n := by omega
    exact Ev.succ (Ev.congr (fun k => fin k _) (Ev.now _))
  | d + 1, i, hd, hi => by
    have hle : c * (i : Int) ≤ c * (n : Int) := Int.mul_le_mul_of_nonneg_left (by omega) hc
    have hge : 0 ≤ c * (i : Int) := Int.mul_nonneg hc (by omega)
    have e : m + c * (i : Int) + c = m + c * ((i + 1 : Nat) : Int) := by rw [Int.natCast_add, Int.mul_add]; simp; omega
    refine Ev.succ (Ev.congr (fun k => step k i (by omega) (by omega) (by omega)) ?_)
    rw [e]
    exact held_loop (α := α) g c hc n m hm0 hm step fin d (i + 1) (by omega) (by omega)
theorem held_all (g : Nat → Int → Int → Option Int) (c : Int) (hc : 0 ≤ c) (n : Nat) (m : Int) (hm0 : 0 ≤ m) (hm : m + c * n ≤ 4611686018427387904)
    (step : ∀ k (i : Nat), i < n → 0 ≤ m + c * i → m + c * i ≤ 4611686018427387904 → g (k + 1) (m + c * i) i = g k (m + c * i + c) ((i + 1 : Nat) : Int)) (fin : ∀ k (q : Int), g (k + 1) q n = some q) : Ev (fun k => g k m 0) (m + c * n) := by
  have := held_loop (α := Unit) g c hc n m hm0 hm step fin n 0 (by omega) (by omega)
  simpa using this
end Go.Proofs.Ytcinaflmpdmdaaa.L
end
section
namespace Go.Proofs.Ytcinaflmpdmdaaa.Q
open Go.RowKit Go.Proofs.YtcinaflmpdmdaaaW.PrintWords Go.Proofs.YtcinaflmpdmdaaaW.PrintLast Go.Proofs.YtcinaflmpdmdaaaW.PrintMore Go.Proofs.Ytcinaflmpdmdaaa.L
theorem rd_cell (l : List S46) (i : Nat) (h : i < l.length) : rd_T46 l (i : Int) = l[i] := by simp [rd_T46, List.getD_eq_getElem?_getD, h]
theorem rd_cell_set (l : List S46) (i : Nat) (h : i < l.length) (x : S46) : rd_T46 (l.set i x) (i : Int) = x := by simp [rd_T46, List.getD_eq_getElem?_getD, h]
end Go.Proofs.Ytcinaflmpdmdaaa.Q
end
section
namespace Go.Proofs.Ytcinaflmpdmdaaa.Q
open Go.RowKit Go.Proofs.YtcinaflmpdmdaaaW.PrintWords Go.Proofs.YtcinaflmpdmdaaaW.PrintLast Go.Proofs.YtcinaflmpdmdaaaW.PrintMore Go.Proofs.Ytcinaflmpdmdaaa.L
theorem within_eq (a b c : Int) : impl_within.f a b c = some (decide (b ≤ a ∧ a ≤ c)) := by
  unfold impl_within.f
  by_cases h : b ≤ a <;> simp [h]
theorem l1In_eq (a b c : Int) : spec_l1In.f a b c = some (decide (b ≤ a ∧ a ≤ c)) := by
  unfold spec_l1In.f
  by_cases h : b ≤ a <;> simp [h]
end Go.Proofs.Ytcinaflmpdmdaaa.Q
end
section
namespace Go.Proofs.Ytcinaflmpdmdaaa.Q
theorem cellsS_len (l : List Int) : (cellsS l).length ≤ 4 * l.length := by rw [cellsS, List.length_map]; exact M.cellsOf_len l
end Go.Proofs.Ytcinaflmpdmdaaa.Q
end
section
namespace Go.Proofs.Ytcinaflmpdmdaaa.Q
open Go.RowKit Go.Proofs.YtcinaflmpdmdaaaW.PrintWords Go.Proofs.YtcinaflmpdmdaaaW.PrintLast Go.Proofs.YtcinaflmpdmdaaaW.PrintMore Go.Proofs.Ytcinaflmpdmdaaa.L
def seenB (c : Int) : Bool := decide ((0 ≤ c ∧ c ≤ 65535) ∧ ¬ (55296 ≤ c ∧ c ≤ 57343) ∧ 32 ≤ c ∧ c ≠ 127)
def cellOk (s : S46) : Bool := seenB s.f0 && decide (0 ≤ s.f1 ∧ s.f1 ≤ 400) && decide (1 ≤ s.f2 ∧ s.f2 ≤ 3)
theorem isSeen_eq (c : Int) : impl_isSeen.f c = some (seenB c) := by
  unfold impl_isSeen.f impl_isChar.f
  simp only [within_eq, Option.bind_some]
  by_cases h1 : 0 ≤ c ∧ c ≤ 65535
  · rw [decide_eq_true h1]
    by_cases h2 : 55296 ≤ c ∧ c ≤ 57343
    · rw [decide_eq_true h2]
      simp [seenB, h2]
    · rw [decide_eq_false h2]
      by_cases h3 : 32 ≤ c
      · by_cases h4 : c = 127 <;> simp [seenB, h1, h2, h3, h4]
      · simp [seenB, h3]
  · rw [decide_eq_false h1]
    simp [seenB, h1]
theorem l1Char_eq (c : Int) : spec_l1Char.f c = some (decide ((0 ≤ c ∧ c ≤ 65535) ∧ ¬ (55296 ≤ c ∧ c ≤ 57343))) := by
  unfold spec_l1Char.f
  simp only [l1In_eq, Option.bind_some]
  by_cases h1 : 0 ≤ c ∧ c ≤ 55295
  · rw [decide_eq_true h1, if_pos rfl]
    congr 1
    exact (decide_eq_true (by omega)).symm
  · rw [decide_eq_false h1, if_neg (by simp)]
    congr 1
    exact decide_eq_decide.mpr (by omega)
def faultC (C : List S46) : Int := if (C.length : Int) > 2000 then 2 else if C.all cellOk = true then 0 else 3
theorem drop_all (C : List S46) (i : Nat) (h : i < C.length) : (C.drop i).all cellOk = (cellOk C[i] && (C.drop (i + 1)).all cellOk) := by
  rw [List.drop_eq_getElem_cons h, List.all_cons]
theorem i_cellsFault_loop (C : List S46) (hl : C.length ≤ 1073741824) : ∀ (d i : Nat), C.length - i = d → i ≤ C.length → Ev (fun k => impl_CellsFault.l0 k C (C.length : Int) (i : Int)) (if (C.drop i).all cellOk = true then 0 else 3)
  | 0, i, hd, hi => by
    obtain rfl : i = C.length := by omega
    refine Ev.succ ?_
    simp only [impl_CellsFault.l0]
    rw [List.drop_length, List.all_nil, if_pos rfl]
    exact Ev.neg (by omega) (Ev.now _)
  | d + 1, i, hd, hi => by
    have h : i < C.length := by omega
    refine Ev.succ ?_
    simp only [impl_CellsFault.l0, isSeen_eq, within_eq, Option.bind_some, rd_cell C i h]
    refine Ev.pos (by omega) (Ev.pos (by omega) (Ev.pos (by omega) ?_))
    rw [drop_all C i h]
    have ih := i_cellsFault_loop C hl d (i + 1) (by omega) (by omega)
    cases h1 : seenB C[i].f0 with
    | false => exact Ev.neg (by simp) (Ev.one (by simp [cellOk, h1]))
    | true =>
      refine Ev.pos rfl ?_
      by_cases h2 : 0 ≤ C[i].f1 ∧ C[i].f1 ≤ 400
      · refine Ev.pos (decide_eq_true h2) ?_
        by_cases h3 : 1 ≤ C[i].f2 ∧ C[i].f2 ≤ 3
        · refine Ev.pos (decide_eq_true h3) ?_
          rw [w64 (by omega) (by omega)]
          have e : cellOk C[i] = true := by simp [cellOk, h1, h2, h3]
          rw [e, Bool.true_and]
          exact ih
        · exact Ev.neg (by simpa using h3) (Ev.one (by simp [cellOk, h3]))
      · exact Ev.neg (by simpa using h2) (Ev.one (by simp [cellOk, h2]))
theorem impl_CellsFault.ev (C : List S46) (hl : C.length ≤ 1073741824) : Ev (fun k => impl_CellsFault.f k C) (faultC C) := by
  unfold impl_CellsFault.f faultC
  by_cases h : (C.length : Int) > 2000
  · rw [if_pos h]
    exact Ev.pos h (Ev.now _)
  · rw [if_neg h]
    exact Ev.neg h (by have := i_cellsFault_loop C hl C.length 0 (by omega) (by omega); simpa using this)
theorem s_cellsFault_loop (C : List S46) (hl : C.length ≤ 1073741824) : ∀ (d i : Nat), C.length - i = d → i ≤ C.length → Ev (fun k => spec_l1Fault.l0 k C (i : Int)) (if (C.drop i).all cellOk = true then 0 else 3)
  | 0, i, hd, hi => by
    obtain rfl : i = C.length := by omega
    refine Ev.succ ?_
    simp only [spec_l1Fault.l0]
    rw [List.drop_length, List.all_nil, if_pos rfl]
    exact Ev.neg (by omega) (Ev.now _)
  | d + 1, i, hd, hi => by
    have h : i < C.length := by omega
    refine Ev.succ ?_
    simp only [spec_l1Fault.l0, l1Char_eq, l1In_eq, Option.bind_some, rd_cell C i h]
    refine Ev.pos (by omega) (Ev.pos (by omega) ?_)
    rw [drop_all C i h]
    have ih := s_cellsFault_loop C hl d (i + 1) (by omega) (by omega)
    by_cases h1 : (0 ≤ C[i].f0 ∧ C[i].f0 ≤ 65535) ∧ ¬ (55296 ≤ C[i].f0 ∧ C[i].f0 ≤ 57343)
    · refine Ev.pos (decide_eq_true h1) ?_
      by_cases h4 : C[i].f0 < 32
      · exact Ev.pos h4 (Ev.one (by have : ¬ 32 ≤ C[i].f0 := by omega
                                    simp [cellOk, seenB, this]))
      refine Ev.neg h4 ?_
      by_cases h5 : C[i].f0 = 127
      · exact Ev.pos h5 (Ev.one (by simp [cellOk, seenB, h5]))
      refine Ev.neg h5 ?_
      have hs : seenB C[i].f0 = true := decide_eq_true ⟨h1.1, h1.2, by omega, h5⟩
      by_cases h2 : 0 ≤ C[i].f1 ∧ C[i].f1 ≤ 400
      · refine Ev.pos (decide_eq_true h2) ?_
        by_cases h3 : 1 ≤ C[i].f2 ∧ C[i].f2 ≤ 3
        · refine Ev.pos (decide_eq_true h3) ?_
          rw [w64 (by omega) (by omega)]
          have e : cellOk C[i] = true := by simp [cellOk, hs, h2, h3]
          rw [e, Bool.true_and]
          exact ih
        · exact Ev.neg (by simpa using h3) (Ev.one (by simp [cellOk, h3]))
      · exact Ev.neg (by simpa using h2) (Ev.one (by simp [cellOk, h2]))
    · have hs : seenB C[i].f0 = false := decide_eq_false (fun q => h1 ⟨q.1, q.2.1⟩)
      exact Ev.neg (by simpa using h1) (Ev.one (by simp [cellOk, hs]))
theorem spec_l1Fault.ev (C : List S46) (hl : C.length ≤ 1073741824) : Ev (fun k => spec_l1Fault.f k C) (faultC C) := by
  unfold spec_l1Fault.f faultC
  by_cases h : (C.length : Int) > 2000
  · rw [if_pos h]
    exact Ev.pos h (Ev.now _)
  · rw [if_neg h]
    exact Ev.neg h (by have := s_cellsFault_loop C hl C.length 0 (by omega) (by omega); simpa using this)
theorem encode_same {c : Int} (h0 : 0 ≤ c) (h1 : c ≤ 65535) : ∃ bs, impl_encoded.f c = some bs ∧ spec_l1Encode.f c = some bs ∧ bs.length ≤ 3 := by
  unfold impl_encoded.f spec_l1Encode.f
  rw [M.and63_i64 c h0 (by omega), M.and63_i64 (c / 64) (by omega) (by omega), Int.tdiv_eq_ediv_of_nonneg h0, Int.tdiv_eq_ediv_of_nonneg h0, w64 (x := c / 64) (by omega) (by omega), w64 (x := c / 4096) (by omega) (by omega), Int.tmod_eq_emod_of_nonneg h0, Int.tmod_eq_emod_of_nonneg (by omega : 0 ≤ c / 64)]
  by_cases h2 : c < 128
  · exact ⟨_, if_pos h2, if_pos h2, by simp⟩
  · by_cases h3 : c < 2048
    · exact ⟨_, by rw [if_neg h2, if_pos h3], by rw [if_neg h2, if_pos h3], by simp⟩
    · exact ⟨_, by rw [if_neg h2, if_neg h3], by rw [if_neg h2, if_neg h3], by simp⟩
theorem cellsText_loop (C : List S46) (hl : C.length ≤ 2000) (hC : C.all cellOk = true) : ∀ (d i : Nat) (out : List Int), C.length - i = d → i ≤ C.length → out.length ≤ 3 * i → ∃ r, Ev (fun k => impl_CellsText.l0 k out C (C.length : Int) (i : Int)) r ∧ Ev (fun k => spec_CellsText.l0 k C out (i : Int)) r
  | 0, i, out, hd, hi, ho => by
    obtain rfl : i = C.length := by omega
    refine ⟨(0, strOfNums out), Ev.succ ?_, Ev.succ ?_⟩
    · simp only [impl_CellsText.l0]
      exact Ev.neg (by omega) (Ev.now _)
    · simp only [spec_CellsText.l0]
      exact Ev.neg (by omega) (Ev.now _)
  | d + 1, i, out, hd, hi, ho => by
    have h : i < C.length := by omega
    have hc : cellOk C[i] = true := List.all_eq_true.mp hC _ (List.getElem_mem h)
    have hs : (0 ≤ C[i].f0 ∧ C[i].f0 ≤ 65535) := by
      simp only [cellOk, seenB, Bool.and_eq_true, decide_eq_true_eq] at hc
      exact hc.1.1.1
    obtain ⟨bs, e1, e2, hb⟩ := encode_same hs.1 hs.2
    obtain ⟨r, f1, f2⟩ := cellsText_loop C hl hC d (i + 1) (out ++ bs) (by omega) (by omega) (by rw [List.length_append]; omega)
    refine ⟨r, Ev.succ ?_, Ev.succ ?_⟩
    · simp only [impl_CellsText.l0, rd_cell C i h]
      refine Ev.pos (by omega) (Ev.pos (by omega) (Ev.pos (by omega) (Ev.bind0 e1 (Ev.pos (by omega) ?_))))
      rw [w64 (by omega) (by omega)]
      exact f1
    · simp only [spec_CellsText.l0, rd_cell C i h]
      refine Ev.pos (by omega) (Ev.pos (by omega) (Ev.bind0 e2 (Ev.pos (by omega) ?_)))
      rw [w64 (by omega) (by omega)]
      exact f2
theorem cellsText_same (C : List S46) (hl : C.length ≤ 1073741824) : ∃ r, Ev (fun k => impl_CellsText.f k C) r ∧ Ev (fun k => spec_CellsText.f k C) r := by
  unfold impl_CellsText.f spec_CellsText.f
  by_cases h : faultC C = 0
  · have h2 : C.length ≤ 2000 ∧ C.all cellOk = true := by
      unfold faultC at h
      split at h
      · cases h
      · split at h
        · rename_i a b
          exact ⟨by omega, b⟩
        · cases h
    obtain ⟨r, f1, f2⟩ := cellsText_loop C h2.1 h2.2 C.length 0 [] (by omega) (by omega) (by simp)
    exact ⟨r, Ev.bind (impl_CellsFault.ev C hl) (Ev.pos h f1), Ev.bind (spec_l1Fault.ev C hl) (Ev.pos h f2)⟩
  · exact ⟨_, Ev.bind (impl_CellsFault.ev C hl) (Ev.neg h (Ev.now _)), Ev.bind (spec_l1Fault.ev C hl) (Ev.neg h (Ev.now _))⟩
/-! ### the cells of a line -/
open Go.Proofs.Ytcinaflmpdmdaaa.M in
theorem xor64 : ∀ m : Fin 128, (m.val < 32 ∨ m.val = 127) → 32 ≤ bits .xor .u8 (m.val : Int) 64 ∧ bits .xor .u8 (m.val : Int) 64 ≤ 126 := by decide +kernel
theorem seen_of {c : Int} (h0 : 32 ≤ c) (h1 : c ≤ 126) : seenB c = true := decide_eq_true (by omega)
theorem dec_seen {xs : List Int} (hB : M.Byt xs) {p : Nat} (h9 : ¬ (M.bt xs p < 32 ∨ M.bt xs p = 127)) (hd : (M.dec xs p).2 ≠ 0) : seenB (M.dec xs p).1 = true := by
  have hb := hB.bt p
  have m1 := M.more_in (xs := xs) (p + 1)
  have m2 := M.more_in (xs := xs) (p + 2)
  unfold M.dec at hd ⊢
  by_cases h1 : M.bt xs p < 128
  · rw [if_pos h1]
    exact decide_eq_true (by omega)
  · rw [if_neg h1] at hd ⊢
    by_cases h2 : 194 ≤ M.bt xs p ∧ M.bt xs p < 224 ∧ 0 ≤ M.more xs (p + 1)
    · rw [if_pos h2]
      exact decide_eq_true (by simp only; omega)
    · rw [if_neg h2] at hd ⊢
      by_cases h3 : 224 ≤ M.bt xs p ∧ M.bt xs p < 240 ∧ 0 ≤ M.more xs (p + 1) ∧ 0 ≤ M.more xs (p + 2) ∧ 2048 ≤ M.c3 (M.bt xs p) (M.more xs (p + 1)) (M.more xs (p + 2)) ∧ M.isChr (M.c3 (M.bt xs p) (M.more xs (p + 1)) (M.more xs (p + 2))) = true
      · rw [if_pos h3]
        obtain ⟨_, _, _, _, h4, h5⟩ := h3
        simp only [M.isChr, M.inB, Bool.and_eq_true, Bool.not_eq_true', decide_eq_true_eq, decide_eq_false_iff_not] at h5
        exact decide_eq_true (by simp only; omega)
      · rw [if_neg h3] at hd
        exact absurd rfl hd
theorem shown_seen {xs : List Int} (hB : M.Byt xs) {p : Nat} (col : Nat) : ∀ c ∈ (M.shownL xs p col).1, seenB c = true := by
  have hb := hB.bt p
  intro c hc
  unfold M.shownL at hc
  by_cases h9 : M.bt xs p = 9
  · rw [if_pos h9] at hc
    rw [List.eq_of_mem_replicate hc]
    decide
  rw [if_neg h9] at hc
  by_cases h2 : M.bt xs p < 32 ∨ M.bt xs p = 127
  · rw [if_pos h2] at hc
    obtain ⟨m, hm⟩ : ∃ m : Nat, M.bt xs p = m := ⟨(M.bt xs p).toNat, by omega⟩
    have h := xor64 ⟨m, by omega⟩ (by simp only; omega)
    simp only at h
    rw [hm] at hc
    simp only [List.mem_cons, List.not_mem_nil, or_false] at hc
    rcases hc with rfl | rfl
    · decide
    · exact seen_of h.1 h.2
  rw [if_neg h2] at hc
  by_cases h3 : (M.dec xs p).2 = 0
  · rw [if_pos h3] at hc
    have a := M.hexF_in (M.bt xs p / 16) (by omega) (by omega)
    have b := M.hexF_in (M.bt xs p % 16) (by omega) (by omega)
    simp only [List.mem_cons, List.not_mem_nil, or_false] at hc
    rcases hc with rfl | rfl | rfl | rfl
    · decide
    · exact seen_of (by omega) (by omega)
    · exact seen_of (by omega) (by omega)
    · decide
  · rw [if_neg h3] at hc
    simp only [List.mem_cons, List.not_mem_nil, or_false] at hc
    subst hc
    exact dec_seen hB h2 h3
/-- The shown part of a place is not empty. -/
theorem shown_pos (xs : List Int) (p col : Nat) : (M.shownL xs p col).1 ≠ [] := by
  unfold M.shownL
  split
  · intro h
    have := congrArg List.length h
    simp at this
    omega
  · split
    · simp
    · split <;> simp
/-- All cells of a line fit. -/
theorem cellsR_ok {xs : List Int} (hB : M.Byt xs) (hn : xs.length ≤ 400) : ∀ (d p : Nat) (out : List M.Cel), xs.length - p = d → (∀ c ∈ out, seenB c.a = true ∧ 0 ≤ c.b ∧ c.b ≤ 400 ∧ 1 ≤ c.c ∧ c.c ≤ 3) → ∀ c ∈ M.cellsR xs p out, seenB c.a = true ∧ 0 ≤ c.b ∧ c.b ≤ 400 ∧ 1 ≤ c.c ∧ c.c ≤ 3 := fun d => by
  induction d using Nat.strongRecOn with
  | _ d ih =>
    intro p out hd ho
    by_cases h : p < xs.length
    · rw [M.cellsR_step h]
      obtain ⟨a1, a2, a3, a4⟩ := M.shown_n h out.length
      refine ih (xs.length - (p + (M.shownL xs p out.length).2.toNat)) (by omega) _ _ rfl (fun c hc => ?_)
      rcases List.mem_append.mp hc with hc | hc
      · exact ho c hc
      · rw [M.cellsAt] at hc
        obtain ⟨x, hx, rfl⟩ := List.mem_map.mp hc
        exact ⟨shown_seen hB _ x hx, by simp only; omega, by simp only; omega, a1, a2⟩
    · rw [M.cellsR_end h]
      exact ho
theorem cellsS_ok {xs : List Int} (hB : M.Byt xs) (hn : xs.length ≤ 400) : (cellsS xs).all cellOk = true := by
  rw [List.all_eq_true]
  intro s hs
  rw [cellsS] at hs
  obtain ⟨c, hc, rfl⟩ := List.mem_map.mp hs
  obtain ⟨h1, h2, h3, h4, h5⟩ := cellsR_ok hB hn xs.length 0 [] (by omega) (fun c hc => by cases hc) c hc
  simp only [cellOk, h1, Bool.true_and, Bool.and_eq_true, decide_eq_true_eq]
  exact ⟨⟨h2, h3⟩, h4, h5⟩
end Go.Proofs.Ytcinaflmpdmdaaa.Q
end
section
namespace Go.Proofs.Ytcinaflmpdmdaaa.Q
open Go.RowKit Go.Proofs.YtcinaflmpdmdaaaW.PrintWords Go.Proofs.YtcinaflmpdmdaaaW.PrintLast Go.Proofs.YtcinaflmpdmdaaaW.PrintMore Go.Proofs.Ytcinaflmpdmdaaa.L
/-- Bytes of a draw's code. -/
structure CodeOk (l : List Int) : Prop where
  len : l.length ≤ 1048576
  byt : ∀ x ∈ l, 0 ≤ x ∧ x ≤ 255
/-- How far a source has been read: so far at most. -/
def Rd (at_ : Int) : Prop := 0 ≤ at_ ∧ at_ ≤ 1073741824
theorem rd_byt {l : List Int} (h : ∀ x ∈ l, 0 ≤ x ∧ x ≤ 255) (i : Int) : 0 ≤ rd l i ∧ rd l i ≤ 255 := by
  unfold rd
  rw [List.getD_eq_getElem?_getD]
  cases e : l[i.toNat]? with
  | none => simp
  | some x => exact h x (List.mem_of_getElem? e)
theorem tmod_in {a n : Int} (ha : 0 ≤ a) (hn : 1 ≤ n) : 0 ≤ Int.tmod a n ∧ Int.tmod a n < n := by
  rw [Int.tmod_eq_emod_of_nonneg ha]
  exact ⟨Int.emod_nonneg _ (by omega), Int.emod_lt_of_pos _ (by omega)⟩
theorem tdiv_in {a n : Int} (ha : 0 ≤ a) (hn : 1 ≤ n) : 0 ≤ Int.tdiv a n ∧ Int.tdiv a n ≤ a := by
  rw [Int.tdiv_eq_ediv_of_nonneg ha]
  exact ⟨Int.ediv_nonneg ha (by omega), Int.ediv_le_self _ ha⟩
theorem l1Next_ex {l : List Int} (hc : CodeOk l) {a n : Int} (ha : 0 ≤ a ∧ a ≤ 2147483648) (hn : n ≤ 2147483648) : ∃ v, spec_l1Next.f l a n = some (v, a + 1) ∧ 0 ≤ v ∧ (1 ≤ n → v < n) ∧ (n < 1 → v = 0) := by
  obtain ⟨hl, hb⟩ := hc
  obtain ⟨a0, a1⟩ := ha
  unfold spec_l1Next.f
  rw [w64 (x := a + 1) (by omega) (by omega), show a + 1 - 1 = a by omega, w64 (x := a) (by omega) (by omega), w64 (x := a + 1) (by omega) (by omega)]
  by_cases h1 : n < 1
  · exact ⟨0, if_pos h1, by omega, by omega, fun _ => rfl⟩
  rw [if_neg h1]
  by_cases h2 : (l.length : Int) = 0
  · rw [if_pos h2, if_neg (by omega), w64 (by omega) (by omega)]
    obtain ⟨b0, b1⟩ := tmod_in (a := a * 7) (n := n) (by omega) (by omega)
    exact ⟨_, rfl, b0, fun _ => b1, fun h => by omega⟩
  rw [if_neg h2]
  obtain ⟨c0, c1⟩ := tmod_in (a := a) (n := (l.length : Int)) (by omega) (by omega)
  obtain ⟨d0, d1⟩ := tmod_in (a := a + 1) (n := (l.length : Int)) (by omega) (by omega)
  obtain ⟨e0, e1⟩ := tdiv_in (a := a) (n := (l.length : Int)) (by omega) (by omega)
  obtain ⟨f0, f1⟩ := rd_byt hb (Int.tmod a (l.length : Int))
  obtain ⟨g0, g1⟩ := rd_byt hb (Int.tmod (a + 1) (l.length : Int))
  rw [if_pos c0, if_pos c1]
  generalize Int.tdiv a (l.length : Int) = q at *
  generalize rd l (Int.tmod a (l.length : Int)) = x at *
  generalize rd l (Int.tmod (a + 1) (l.length : Int)) = y at *
  have q1 : q ≤ 2147483648 := by omega
  rw [w64 (x := x) (by omega) (by omega), w64 (x := q) (by omega) (by omega), w64 (x := q * 37) (by omega) (by omega), w64 (x := x + q * 37) (by omega) (by omega)]
  by_cases h3 : n > 200
  · rw [if_pos h3, if_pos d0, if_pos d1, if_neg (by omega), w64 (x := y) (by omega) (by omega), w64 (x := (x + q * 37) * 251) (by omega) (by omega), w64 (x := y * 13) (by omega) (by omega), w64 (x := (x + q * 37) * 251 + y * 13) (by omega) (by omega), w64 (by omega) (by omega)]
    obtain ⟨b0, b1⟩ := tmod_in (a := (x + q * 37) * 251 + y * 13 + a) (n := n) (by omega) (by omega)
    exact ⟨_, rfl, b0, fun _ => b1, fun h => by omega⟩
  · rw [if_neg h3, if_neg (by omega)]
    obtain ⟨b0, b1⟩ := tmod_in (a := x + q * 37) (n := n) (by omega) (by omega)
    exact ⟨_, rfl, b0, fun _ => b1, fun h => by omega⟩
theorem l1Chance_ex {l : List Int} (hc : CodeOk l) {a n : Int} (ha : 0 ≤ a ∧ a ≤ 2147483648) (hn : n ≤ 2147483648) : ∃ b, spec_l1Chance.f l a n = some (b, a + 1) := by
  obtain ⟨v, e, _⟩ := l1Next_ex hc ha hn
  exact ⟨v == 0, by unfold spec_l1Chance.f; rw [e]; rfl⟩
theorem l1Pick_ex {l : List Int} (hc : CodeOk l) {a : Int} (ha : 0 ≤ a ∧ a ≤ 2147483648) (xs : List Int) (h0 : 1 ≤ xs.length) (h1 : xs.length ≤ 1000) : ∃ v, spec_l1Pick.f l a xs = some (v, a + 1) ∧ v ∈ xs := by
  obtain ⟨v, e, v0, v1, _⟩ := l1Next_ex hc ha (n := (xs.length : Int)) (by omega)
  have v1 := v1 (by omega)
  obtain ⟨m, rfl⟩ : ∃ m : Nat, v = m := ⟨v.toNat, by omega⟩
  have hm : m < xs.length := by omega
  refine ⟨xs[m], ?_, List.getElem_mem _⟩
  unfold spec_l1Pick.f
  rw [e]
  simp only [Option.bind_some]
  rw [if_pos v0, if_pos v1, rd_nat xs m hm]
def BytL (l : List Int) : Prop := ∀ x ∈ l, 0 ≤ x ∧ x ≤ 255
theorem BytL.nil : BytL [] := by intro x h; cases h
theorem BytL.cons {x : Int} {l : List Int} (h0 : 0 ≤ x) (h1 : x ≤ 255) (h : BytL l) : BytL (x :: l) := by
  intro y hy
  rcases List.mem_cons.mp hy with rfl | hy
  · exact ⟨h0, h1⟩
  · exact h y hy
theorem BytL.append {a b : List Int} (h : BytL a) (k : BytL b) : BytL (a ++ b) := by
  intro x hx
  rcases List.mem_append.mp hx with hx | hx
  · exact h x hx
  · exact k x hx
theorem mod256 (x : Int) : 0 ≤ x % 256 ∧ x % 256 ≤ 255 := ⟨Int.emod_nonneg _ (by decide), by have := Int.emod_lt_of_pos x (show (0 : Int) < 256 by decide); omega⟩
theorem l1Encode_ex (c : Int) : ∃ bs, spec_l1Encode.f c = some bs ∧ bs.length ≤ 3 ∧ BytL bs := by
  unfold spec_l1Encode.f
  split
  · exact ⟨_, rfl, by simp, BytL.cons (mod256 _).1 (mod256 _).2 BytL.nil⟩
  · split
    · exact ⟨_, rfl, by simp, BytL.cons (mod256 _).1 (mod256 _).2 (BytL.cons (mod256 _).1 (mod256 _).2 BytL.nil)⟩
    · exact ⟨_, rfl, by simp, BytL.cons (mod256 _).1 (mod256 _).2 (BytL.cons (mod256 _).1 (mod256 _).2 (BytL.cons (mod256 _).1 (mod256 _).2 BytL.nil))⟩
theorem l1Byte_ex {l : List Int} (hc : CodeOk l) {a : Int} (ha : 0 ≤ a ∧ a ≤ 2147483600) : ∃ bs a', spec_l1Byte.f l a = some (bs, a') ∧ a ≤ a' ∧ a' ≤ a + 3 ∧ bs.length ≤ 3 ∧ BytL bs := by
  obtain ⟨v, e, _⟩ := l1Next_ex hc (a := a) (n := 12) (by omega) (by omega)
  unfold spec_l1Byte.f
  rw [e]
  simp only [Option.bind_some]
  by_cases h0 : v = 0
  · rw [if_pos h0]
    exact ⟨_, _, rfl, by omega, by omega, by simp, BytL.cons (by decide) (by decide) BytL.nil⟩
  rw [if_neg h0]
  by_cases h1 : v = 1
  · obtain ⟨p, ep, _⟩ := l1Pick_ex hc (a := a + 1) (by omega) [1, 27, 127, 13] (by decide) (by decide)
    rw [if_pos h1, ep]
    exact ⟨_, _, rfl, by omega, by omega, by simp, BytL.cons (mod256 _).1 (mod256 _).2 BytL.nil⟩
  rw [if_neg h1]
  by_cases h2 : v = 2
  · obtain ⟨p, ep, _⟩ := l1Next_ex hc (a := a + 1) (n := 128) (by omega) (by omega)
    rw [if_pos h2, ep]
    exact ⟨_, _, rfl, by omega, by omega, by simp, BytL.cons (mod256 _).1 (mod256 _).2 BytL.nil⟩
  rw [if_neg h2]
  by_cases h3 : v = 3
  · obtain ⟨p, ep, _⟩ := l1Pick_ex hc (a := a + 1) (by omega) [228, 8364, 2047, 2048, 65535] (by decide) (by decide)
    obtain ⟨bs, eb, b1, b2⟩ := l1Encode_ex p
    rw [if_pos h3, ep]
    simp only [Option.bind_some]
    rw [eb]
    exact ⟨_, _, rfl, by omega, by omega, b1, b2⟩
  rw [if_neg h3]
  obtain ⟨p, ep, _⟩ := l1Next_ex hc (a := a + 1) (n := 4) (by omega) (by omega)
  rw [ep]
  simp only [Option.bind_some]
  obtain ⟨q, eq, _⟩ := l1Pick_ex hc (a := a + 1 + 1) (by omega) [97, 98, 99, 32, wrap64 (97 + p)] (by simp) (by simp)
  rw [eq]
  exact ⟨_, _, rfl, by omega, by omega, by simp, BytL.cons (mod256 _).1 (mod256 _).2 BytL.nil⟩
theorem l1Line_loop {l : List Int} (hc : CodeOk l) : ∀ (n : Nat) (out : List Int) (a : Int), out.length + 3 * n ≤ 1000000 → 0 ≤ a → a + 3 * n ≤ 2000000000 → BytL out →
    ∃ bs a', Ev (fun k => spec_l1Line.l0 k out (n : Int) l a) (bs, a') ∧ a ≤ a' ∧ a' ≤ a + 3 * n ∧ bs.length ≤ out.length + 3 * n ∧ BytL bs
  | 0, out, a, _, h0, h1, hb => ⟨out, a, Ev.succ (Ev.congr (fun k => by simp only [spec_l1Line.l0]; rw [if_neg (by omega)]) (Ev.now _)), by omega, by omega, by omega, hb⟩
  | n + 1, out, a, ho, h0, h1, hb => by
    obtain ⟨bs, a1, e, e0, e1, e2, e3⟩ := l1Byte_ex hc (a := a) (by omega)
    obtain ⟨cs, a2, f, f0, f1, f2, f3⟩ := l1Line_loop hc n (out ++ bs) a1 (by rw [List.length_append]; omega) (by omega) (by omega) (hb.append e3)
    rw [List.length_append] at f2
    refine ⟨cs, a2, Ev.succ (Ev.congr (fun k => ?_) f), by omega, by omega, by omega, f3⟩
    simp only [spec_l1Line.l0]
    rw [if_pos (by omega), e]
    simp only [Option.bind_some]
    rw [if_pos (by omega), w64 (by omega) (by omega), show ((n + 1 : Nat) : Int) - 1 = (n : Int) by omega]
theorem l1Line_ex {l : List Int} (hc : CodeOk l) {a : Int} (n : Nat) (ha : 0 ≤ a ∧ a ≤ 1900000000) (h1 : 1 ≤ n) (h2 : n ≤ 10000) : ∃ bs a', Ev (fun k => spec_l1Line.f k l a (n : Int)) (bs, a') ∧ a ≤ a' ∧ a' ≤ a + 1 + 3 * n ∧ bs.length ≤ 3 * n ∧ BytL bs := by
  obtain ⟨v, e, v0, v1, _⟩ := l1Next_ex hc (a := a) (n := (n : Int)) (by omega) (by omega)
  have v1 := v1 (by omega)
  obtain ⟨m, rfl⟩ : ∃ m : Nat, v = m := ⟨v.toNat, by omega⟩
  obtain ⟨bs, a', f, f0, f1, f2, f3⟩ := l1Line_loop hc m [] (a + 1) (by simp; omega) (by omega) (by omega) BytL.nil
  simp only [List.length_nil] at f2
  refine ⟨bs, a', ?_, by omega, by omega, by omega, f3⟩
  unfold spec_l1Line.f
  exact Ev.bind0 e f
theorem BytL.zeros (n : Nat) : BytL (List.replicate n 0) := by
  intro x hx
  rw [List.eq_of_mem_replicate hx]
  decide
theorem l1Long_ex {l : List Int} (hc : CodeOk l) {a : Int} (ha : 0 ≤ a ∧ a ≤ 1800000000) : ∃ bs a', Ev (fun k => spec_l1Long.f k l a) (bs, a') ∧ a ≤ a' ∧ a' ≤ a + 40 ∧ bs.length ≤ 401 ∧ BytL bs := by
  obtain ⟨b, e⟩ := l1Chance_ex hc (a := a) (n := 30) (by omega) (by omega)
  unfold spec_l1Long.f
  cases b with
  | true =>
    obtain ⟨p, ep, hp⟩ := l1Pick_ex hc (a := a + 1) (by omega) [400, 401] (by decide) (by decide)
    have hp2 : p = 400 ∨ p = 401 := by simpa using hp
    refine ⟨List.replicate p.toNat 0, a + 1 + 1, Ev.bind0 e (Ev.pos rfl (Ev.bind0 ep (Ev.pos (by simp only; omega) (Ev.pos (by simp only; omega) (Ev.now _))))), by omega, by omega, by rw [List.length_replicate]; omega, BytL.zeros _⟩
  | false =>
    obtain ⟨bs, a', f, f0, f1, f2, f3⟩ := l1Line_ex hc (a := a + 1) 12 (by omega) (by omega) (by omega)
    refine ⟨bs, a', Ev.bind0 e (Ev.neg (by simp) (Ev.bind f (Ev.now _))), by omega, by omega, by omega, f3⟩
end Go.Proofs.Ytcinaflmpdmdaaa.Q
end
section
namespace Go.Proofs.Ytcinaflmpdmdaaa.Q
open Go.RowKit Go.Proofs.YtcinaflmpdmdaaaW.PrintWords Go.Proofs.YtcinaflmpdmdaaaW.PrintLast Go.Proofs.YtcinaflmpdmdaaaW.PrintMore Go.Proofs.Ytcinaflmpdmdaaa.L
theorem lineOk_bytL {l : List Int} (h : l.length ≤ 1048576) (hb : BytL l) : M.lineOk l = true := by
  simp only [M.lineOk, Bool.and_eq_true, List.all_eq_true, decide_eq_true_eq]
  exact ⟨h, hb⟩
theorem byt_bytL {l : List Int} (hb : BytL l) : M.Byt l := fun _ y hy => hb y (List.mem_of_getElem? hy)
theorem l1Bent_ex {l : List Int} (hc : CodeOk l) {a : Int} (ha : 0 ≤ a ∧ a ≤ 1800000000) : ∃ C a', Ev (fun k => spec_l1Bent.f k l a) (C, a') ∧ C.length ≤ 2001 := by
  obtain ⟨bs, a1, e1, a1l, a1h, b1, b2⟩ := l1Line_ex hc (a := a) 8 (by omega) (by omega) (by omega)
  have ec : spec_l1Cells.f bs = some (cellsS bs) := by unfold spec_l1Cells.f; rw [if_pos (lineOk_bytL (by omega) b2)]
  have hcl := cellsS_len bs
  obtain ⟨v, en, _⟩ := l1Next_ex hc (a := a1) (n := 10) (by omega) (by omega)
  unfold spec_l1Bent.f
  by_cases h0 : v = 0
  · obtain ⟨p, ep, _⟩ := l1Pick_ex hc (a := a1 + 1) (by omega) [31, 127, 32, 65536] (by decide) (by decide)
    obtain ⟨q, eq, _⟩ := l1Pick_ex hc (a := a1 + 1 + 1) (by omega) [0, -1, 401] (by decide) (by decide)
    obtain ⟨s, es, _⟩ := l1Pick_ex hc (a := a1 + 1 + 1 + 1) (by omega) [1, 0, 4] (by decide) (by decide)
    exact ⟨cellsS bs ++ [⟨p, q, s⟩], _, Ev.bind e1 (Ev.bind0 ec (Ev.bind0 en (Ev.pos h0 (Ev.bind0 ep (Ev.bind0 eq (Ev.bind0 es (Ev.pos (by omega) (Ev.now _)))))))), by rw [List.length_append]; simp; omega⟩
  · by_cases h1 : v = 1
    · exact ⟨List.replicate 2001 z46, _, Ev.bind e1 (Ev.bind0 ec (Ev.bind0 en (Ev.neg h0 (Ev.pos h1 (Ev.pos (by decide) (Ev.now _)))))), by rw [List.length_replicate]; omega⟩
    · exact ⟨cellsS bs, _, Ev.bind e1 (Ev.bind0 ec (Ev.bind0 en (Ev.neg h0 (Ev.neg h1 (Ev.now _))))), by omega⟩
theorem rd_cell? {l : List S46} {i : Nat} {x : S46} (h : l[i]? = some x) : rd_T46 l (i : Int) = x := by simp [rd_T46, List.getD_eq_getElem?_getD, h]
theorem cellsR_pre (xs : List Int) : ∀ (d p : Nat) (out : List M.Cel), xs.length - p = d → ∃ t, M.cellsR xs p out = out ++ t := fun d => by
  induction d using Nat.strongRecOn with
  | _ d ih =>
    intro p out hd
    by_cases h : p < xs.length
    · rw [M.cellsR_step h]
      obtain ⟨a1, a2, a3, a4⟩ := M.shown_n h out.length
      obtain ⟨t, ht⟩ := ih (xs.length - (p + (M.shownL xs p out.length).2.toNat)) (by omega) (p + (M.shownL xs p out.length).2.toNat) (out ++ M.cellsAt xs p out.length) rfl
      exact ⟨M.cellsAt xs p out.length ++ t, by rw [ht, List.append_assoc]⟩
    · exact ⟨[], by rw [M.cellsR_end h, List.append_nil]⟩
section
variable (code line : List Int) (C : List S46)
theorem group_loop (hl : line.length ≤ 400) (hC : C.length ≤ 2000) (p q : Nat) (hq : 1 ≤ q) (hpq : p + q ≤ line.length) (r : Bool) : ∀ (m i : Nat), (∀ j, j < m → ∃ c, C[i + j]? = some ⟨c, (p : Int), (q : Int)⟩) →
    Ev (fun k => laws_FnCells.l0 k code line ((p + q : Nat) : Int) (p : Int) ((i + m : Nat) : Int) 0 C) r → Ev (fun k => laws_FnCells.l0 k code line ((p + q : Nat) : Int) (p : Int) (i : Int) 0 C) r
  | 0, i, _, h => h
  | m + 1, i, hj, h => by
    obtain ⟨c, hc⟩ := hj 0 (by omega)
    rw [Nat.add_zero] at hc
    have hi : i < C.length := (List.getElem?_eq_some_iff.mp hc).1
    have ih := group_loop hl hC p q hq hpq r m (i + 1) (fun j hj' => by have := hj (j + 1) (by omega); rwa [show i + (j + 1) = i + 1 + j by omega] at this) (by rwa [show i + 1 + m = i + (m + 1) by omega])
    refine Ev.succ ?_
    simp only [laws_FnCells.l0, rd_cell? hc]
    refine Ev.pos (by omega) (Ev.pos (by omega) (Ev.neg (by omega) (Ev.pos trivial (Ev.neg (by omega) ?_))))
    refine Ev.succ ?_
    simp only [laws_FnCells.j1]
    refine Ev.neg (by rw [w64 (by omega) (by omega)]; simp; omega) (Ev.neg (by omega) ?_)
    rw [w64 (by omega) (by omega)]
    exact ih
theorem cells_loop (hb : BytL line) (hl : line.length ≤ 400) (hCe : C = cellsS line) (r : Bool) (fin : ∀ last, Ev (fun k => laws_FnCells.l0 k code line (line.length : Int) last (C.length : Int) 0 C) r) : ∀ (d p : Nat) (out : List M.Cel) (last : Int), line.length - p = d → p ≤ line.length → M.cellsOf line = M.cellsR line p out →
    Ev (fun k => laws_FnCells.l0 k code line (p : Int) last (out.length : Int) 0 C) r := fun d => by
  have hC : C.length ≤ 2000 := by
    have := cellsS_len line
    rw [hCe]
    omega
  induction d using Nat.strongRecOn with
  | _ d ih =>
    intro p out last hd hp he
    by_cases h : p < line.length
    · obtain ⟨a1, a2, a3, a4⟩ := M.shown_n h out.length
      obtain ⟨q, hq⟩ : ∃ q : Nat, (M.shownL line p out.length).2 = q := ⟨(M.shownL line p out.length).2.toNat, by omega⟩
      have he2 := he
      rw [M.cellsR_step h] at he2
      obtain ⟨t, ht⟩ := cellsR_pre line _ (p + (M.shownL line p out.length).2.toNat) (out ++ M.cellsAt line p out.length) rfl
      have hget : ∀ j, j < (M.cellsAt line p out.length).length → ∃ c, C[out.length + j]? = some ⟨c, (p : Int), (q : Int)⟩ := by
        intro j hj
        rw [hCe, cellsS, List.getElem?_map, he2, ht, List.append_assoc, List.getElem?_append_right (by omega), Nat.add_sub_cancel_left, List.getElem?_append_left hj, M.cellsAt, List.getElem?_map]
        have hj2 : j < (M.shownL line p out.length).1.length := by simpa [M.cellsAt] using hj
        rw [List.getElem?_eq_getElem hj2]
        exact ⟨_, by rw [hq]; rfl⟩
      have hlen : 1 ≤ (M.cellsAt line p out.length).length := by
        have := shown_pos line p out.length
        rw [M.cellsAt, List.length_map]
        exact List.length_pos_iff.mpr this
      rw [hq, Int.toNat_natCast] at he2
      rw [hq] at a1 a2 a3
      rw [Int.toNat_natCast] at a3
      have next := ih (line.length - (p + q)) (by omega) (p + q) (out ++ M.cellsAt line p out.length) (p : Int) rfl (by omega) he2
      obtain ⟨m, hm⟩ : ∃ m, (M.cellsAt line p out.length).length = m + 1 := ⟨_, (Nat.sub_add_cancel hlen).symm⟩
      rw [hm] at hget
      rw [List.length_append, hm] at next
      obtain ⟨c, hc⟩ := hget 0 (by omega)
      rw [Nat.add_zero] at hc
      have hi : out.length < C.length := (List.getElem?_eq_some_iff.mp hc).1
      have g := group_loop code line C hl hC p q (by omega) (by omega) r m (out.length + 1) (fun j hj => by have := hget (j + 1) (by omega); rwa [show out.length + (j + 1) = out.length + 1 + j by omega] at this) (by rwa [show out.length + 1 + m = out.length + (m + 1) by omega])
      refine Ev.succ ?_
      simp only [laws_FnCells.l0, rd_cell? hc]
      refine Ev.pos (by omega) (Ev.pos (by omega) (Ev.pos trivial (Ev.neg (by omega) ?_)))
      refine Ev.succ ?_
      simp only [laws_FnCells.j1]
      refine Ev.neg (by rw [w64 (by omega) (by omega)]; simp; omega) (Ev.pos trivial ?_)
      rw [w64 (by omega) (by omega), w64 (by omega) (by omega)]
      exact g
    · have hp2 : p = line.length := by omega
      subst hp2
      rw [M.cellsR_end h] at he
      have : out.length = C.length := by rw [hCe, cellsS, List.length_map, he]
      rw [this]
      exact fin last
end
end Go.Proofs.Ytcinaflmpdmdaaa.Q
namespace Go.Proofs.Ytcinaflmpdmdaaa.Pure
open Go.RowKit Go.Proofs.Ytcinaflmpdmdaaa.Q Go.Proofs.YtcinaflmpdmdaaaW.PrintWords Go.Proofs.YtcinaflmpdmdaaaW.PrintLast Go.Proofs.YtcinaflmpdmdaaaW.PrintMore Go.Proofs.Ytcinaflmpdmdaaa.L
theorem FnCells : laws_FnCells.Pure := by
  intro l0 _ _ hw
  refine Ev.rounds ?_
  unfold laws_FnCells.f
  refine Ev.bind0 (show laws_lwBig.f l0 = some (decide ((l0.length : Int) > 1048576)) from rfl) ?_
  by_cases hl : (l0.length : Int) > 1048576
  · exact Ev.pos (decide_eq_true hl) (Ev.now _)
  refine Ev.neg (by simpa using hl) ?_
  have hc : CodeOk l0 := ⟨by omega, fun x hx => bounds_u8 (hw x hx)⟩
  obtain ⟨line, a1, e1, _, _, hn, hb⟩ := l1Long_ex hc (a := 0) (by omega)
  have hd : Ev (fun k => spec_DrawCellsOf.f k l0) line := by
    unfold spec_DrawCellsOf.f
    exact Ev.bind0 (show spec_l1Source.f l0 = some (l0, 0) from rfl) (Ev.bind e1 (Ev.now _))
  refine Ev.bind hd ?_
  have ho : M.lineOk line = true := lineOk_bytL (by omega) hb
  have hcells : impl_cells.f line = some (cellsS line) := by unfold impl_cells.f spec_l1Cells.f; rw [if_pos ho]
  have hcl := cellsS_len line
  by_cases h4 : (line.length : Int) > 400
  · have hI : impl_CellsOf.f line = some (2, []) := by unfold impl_CellsOf.f impl_isLong.f; simp [h4]
    have hS : spec_CellsOf.f line = some (2, []) := by unfold spec_CellsOf.f; rw [if_pos h4]
    have hW : impl_WidthOf.f line = some (2, 0) := by unfold impl_WidthOf.f impl_isLong.f; simp [h4]
    exact Ev.bind0 hI (Ev.neg (by decide) (Ev.bind0 hS (Ev.pos rfl (Ev.bind0 hW (Ev.one (by decide))))))
  · have hI : impl_CellsOf.f line = some (0, cellsS line) := by unfold impl_CellsOf.f impl_isLong.f; rw [hcells]; simp [h4]
    have hW : impl_WidthOf.f line = some (0, ((cellsS line).length : Int)) := by unfold impl_WidthOf.f impl_isLong.f; rw [hcells]; simp [h4]
    refine Ev.bind0 hI (Ev.pos rfl ?_)
    refine cells_loop l0 line (cellsS line) hb (by omega) rfl true (fun last => ?_) line.length 0 [] 0 (by omega) (by omega) rfl
    refine Ev.succ ?_
    simp only [laws_FnCells.l0]
    refine Ev.neg (by omega) ?_
    obtain ⟨D, a2, e2, hD⟩ := l1Bent_ex hc (a := 0) (by omega)
    have hdt : Ev (fun k => spec_DrawCellsText.f k l0) D := by
      unfold spec_DrawCellsText.f
      exact Ev.bind0 (show spec_l1Source.f l0 = some (l0, 0) from rfl) (Ev.bind e2 (Ev.now _))
    obtain ⟨r, t1, t2⟩ := cellsText_same D (by omega)
    have hF : faultC (cellsS line) = 0 := by
      unfold faultC
      rw [if_neg (by omega), if_pos (cellsS_ok (byt_bytL hb) (by omega))]
    exact Ev.bind hdt (Ev.bind t1 (Ev.pos trivial (Ev.bind0 hW (Ev.pos rfl (Ev.bind (impl_CellsFault.ev _ (by omega)) (Ev.pos hF (Ev.bind t2 (Ev.pos rfl (Ev.bind t2 (Ev.one (by simp)))))))))))
end Go.Proofs.Ytcinaflmpdmdaaa.Pure
end
section
namespace Go.Proofs.Ytcinaflmpdmdaaa.fnCells
open Go.ChangeShapes Go.WideShapes Go.ChangeAt Go.RowKit
open Go.ChangeMaps (open_string shut_string)
set_option linter.unusedVariables false
theorem own : ownKnob Try.prog.godebug = none := by kernel_rfl
theorem laidOut : laidOutB Try.prog = true := by kernel_rfl
def IsRow (k : IntKind) (w : World) (a : Option Addr) (len cap : Nat) (zs : List Int) : Prop :=
  (a = none ∧ len = 0 ∧ cap = 0 ∧ zs = []) ∨
  ∃ x, a = some x ∧ len ≤ cap ∧ cap ≤ maxLen ∧ zs.length = cap ∧ (∀ i, i < zs.length → w.cell? (x.add i) = some (.int k (zs.getD i 0))) ∧ ∀ n ∈ zs, (Lit.int k n).wf = true
set_option maxRecDepth 100000 in
theorem lifted (os : Os) (started : os.Started) (H : Type) (enc : TypeId × Value → H) :
    ReturnsInHanded {} Try.checked os 7 .any (Rows.fnCellsSpec.pre6 enc Try.prog Try.f7 Rows.fnCellsRow.domain false) (Rows.fnCellsSpec.post enc Try.prog Try.f7 false true false false) := by
  refine returnsInHanded_of_change_sized (C := Try.checked) own started (by kernel_rfl) Try.func7
    (ChangeSpec.witness6 (enc := enc) (C := Try.checked) false ⟨#[], #[.slice none 0 0], []⟩ 8 (by kernel_rfl) (by kernel_rfl) (by kernel_rfl) (by kernel_rfl)) ?_
  intro W base args ds gs before hval0 hW hcnd hsz0 _
  have hsz : (DataW.weightsEach Try.prog (Try.f7.params.toList ++ Rows.fnCellsSpec.plain.varTypes Try.prog) (ds ++ gs)).all (· ≤ reachBytes) = true := hsz0
  have hval : ∀ (j : Nat) t v, Try.f7.params[j]? = some t → args[j]? = some v → Value.okWide Try.prog W .any base t v := hval0
  have hW' := hW
  obtain ⟨p, q, hA0, hV, rfl, hfz, hnd⟩ := hW
  have hA : DataW.TrodAll enc Try.prog W 0 (fun _ => true) true Try.f7.params.toList args.toList ds p := hA0
  rw [Try.params7] at hA hval hsz
  obtain ⟨v0, vs0, d0, ds0, p0, q0, hargs, rfl, rfl, h0, r0⟩ := trodAll_cons hA
  obtain ⟨rfl, rfl, rfl⟩ := trodAll_nil r0
  obtain rfl : args = #[v0] := by cases args; simp_all
  obtain ⟨rfl, rfl⟩ := trodVars_none hV
  obtain ⟨a0, len0, cap0, rfl⟩ := okWide_slice Try.underlying28 (hval 0 28 v0 rfl rfl)
  have k0 := h0
  have lt0 : ∀ x ∈ p0, x.block < W.heap.size := by obtain ⟨m, hm⟩ := k0; exact DataW.trod_lt m _ _ _ hm
  obtain ⟨z0, w0⟩ : ∃ zs, IsRow .u8 W a0 len0 cap0 zs := by
    obtain ⟨fuel, hf⟩ := h0
    rcases open_ints Try.underlying28 Try.underlying5 (by kernel_rfl) hf with ⟨hcs, _⟩ | ⟨x, l, c, zs, hcs, _, hl, hm, hz, _, hcell, hwz⟩
    · simp [Value.cells] at hcs
      obtain ⟨rfl, rfl, rfl⟩ := hcs
      exact ⟨[], .inl ⟨rfl, rfl, rfl, rfl⟩⟩
    · simp [Value.cells] at hcs
      obtain ⟨rfl, rfl, rfl⟩ := hcs
      exact ⟨zs, .inr ⟨_, rfl, hl, hm, by simpa using hz, hcell, hwz⟩⟩
  have y0 : len0 * 1 ≤ 140737488351232 := Go.Proofs.YtcinaflmpdmdaaaW.PrintWords.sized_ints hsz (j := 0) (t := 28) rfl rfl Try.underlying28 Try.underlying5 (by kernel_rfl) (by kernel_rfl) h0
  clear hA0 hval0 hsz0 hsz
  refine (Q.laws_FnCells.walk Pure.FnCells a0 len0 cap0 z0 W w0 y0).mono fun e W' ⟨he, bel⟩ => ?_
  subst he
  exact ⟨_, rfl, _, _, _, [], _, [], hW', trodAll_mk1 (shut_bool Try.underlying4 _), (trodAll_cons_mk (Below.trod laidOut (by kernel_rfl) (of_decide_eq_true (by kernel_rfl)) k0 bel lt0) trodAll_mk0), rfl, bel.frame _, fun h => by cases h⟩
theorem over : Rows.fnCellsRow.holds Try.pinned (OpenSpec.ofChange Rows.fnCellsSpec) :=
  OpenClaim.holds_of_wide 7 Try.f7 rfl rfl rfl rfl rfl rfl rfl ⟨rfl, rfl, rfl, rfl, rfl⟩ rfl rfl rfl rfl rfl (by kernel_rfl) Try.func7 (by kernel_rfl)
    (of_decide_eq_true (by kernel_rfl)) (by unfold Func.isWrapper; first | (rw [if_pos (by decide +kernel)]; kernel_rfl) | (rw [if_neg (by decide +kernel)]; exact ⟨rfl, rfl⟩))
    (fun os started H enc _ => lifted os started H enc)
theorem proved : Rows.FnCellsSaid := over
#print axioms proved
end Go.Proofs.Ytcinaflmpdmdaaa.fnCells
namespace Go.Proofs.Ytcinaflmpdmdaaa
/-- The row, under a short name, for the claim. -/
theorem fnCells_holds : Rows.FnCellsSaid := fnCells.proved
end Go.Proofs.Ytcinaflmpdmdaaa
end
