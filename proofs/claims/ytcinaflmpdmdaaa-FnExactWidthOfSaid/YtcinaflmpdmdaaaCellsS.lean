/- The cells of a line, by the reference. -/
import Derived.Test.YtcinaflmpdmdaaaCells
namespace Go.Proofs.Ytcinaflmpdmdaaa
open Go.RowKit
theorem dec_n {xs : List Int} {i : Nat} (hi : i < xs.length) (h : (dec xs i).2 ≠ 0) : 1 ≤ (dec xs i).2 ∧ (dec xs i).2 ≤ 3 ∧ i + (dec xs i).2.toNat ≤ xs.length := by
  unfold dec at h ⊢
  split
  · simp; omega
  · rename_i h1
    rw [if_neg h1] at h
    split
    · rename_i h2
      have : ¬ xs.length ≤ i + 1 := fun e => by have := more_out e; omega
      simp
      omega
    · rename_i h2
      rw [if_neg h2] at h
      split
      · rename_i h3
        have : ¬ xs.length ≤ i + 2 := fun e => by have := more_out e; omega
        simp
        omega
      · rename_i h3
        rw [if_neg h3] at h
        exact absurd rfl h
theorem shown_n {xs : List Int} {i : Nat} (hi : i < xs.length) (col : Nat) : 1 ≤ (shownL xs i col).2 ∧ (shownL xs i col).2 ≤ 3 ∧ i + (shownL xs i col).2.toNat ≤ xs.length ∧ (shownL xs i col).1.length ≤ 4 := by
  unfold shownL
  split
  · simp; omega
  · split
    · simp; omega
    · split
      · simp; omega
      · rename_i h
        obtain ⟨a, b, c⟩ := dec_n hi h
        simp only [List.length_cons, List.length_nil]
        omega
def cellsAt (xs : List Int) (p : Nat) (col : Nat) : List Cel := (shownL xs p col).1.map fun c => ⟨c, p, (shownL xs p col).2⟩
def cellsR (xs : List Int) (p : Nat) (out : List Cel) : List Cel :=
  if p < xs.length then cellsR xs (p + (shownL xs p out.length).2.toNat) (out ++ cellsAt xs p out.length) else out
termination_by xs.length - p
decreasing_by
  rename_i h
  have := shown_n h out.length
  omega
theorem cellsR_step {xs : List Int} {p : Nat} (h : p < xs.length) (out : List Cel) : cellsR xs p out = cellsR xs (p + (shownL xs p out.length).2.toNat) (out ++ cellsAt xs p out.length) := by
  rw [cellsR, if_pos h]
theorem cellsR_end {xs : List Int} {p : Nat} (h : ¬ p < xs.length) (out : List Cel) : cellsR xs p out = out := by
  rw [cellsR, if_neg h]
def cellsOf (xs : List Int) : List Cel := cellsR xs 0 []
theorem info_cell : (Try.prog.info? 46).map (fun i => (i.zero, i.size, i.bytes)) = some (some (.agg #[.int .i64 0, .int .i64 0, .int .i64 0]), 3, 24) := by kernel_rfl
theorem eCel_one (y : Cel) : ∀ u ∈ eCel y, u.oneCell' = true := by simp [eCel, Value.oneCell']
set_option maxHeartbeats 2000000 in
theorem l1Cells_c (A : Option Addr) (n c : Nat) (xs : List Int) (w : World) (hn : xs.length = n) (hx : Row eU 1 w A xs) (hB : Byt xs) (hm : n ≤ 1048576)
    (R : Ending → World → Prop) (h : ∀ A' c' w', Own eCel 3 46 w' w.heap.size (.slice A' (cellsOf xs).length c') (cellsOf xs) → (cellsOf xs).length ≤ c' → c' ≤ maxLen → Below w.heap.size w w' → R (.returned (.slice A' (cellsOf xs).length c')) w') :
    Calls Try.prog 57 #[.slice A n c] w R := by
  have H := Lib.hid h
  have HX := Lib.hid hx
  have HB := Lib.hid hB
  have HN := Lib.hid hn
  clear h hx hB hn
  (change Calls _ _ _ _ (Fin R); go_enter Try.func57, Try.ntmps57)
  go_wp2_with (fail)
  go_loopg [3, 4] n (fun gk v3 v4 wr => ∃ (p m d : Nat) (B : Option Addr) (out : List Cel), gk = n - p ∧ p ≤ n ∧ v3 = .slice B m d ∧ v4 = .int .i64 p ∧ out.length = m ∧ m ≤ 4 * p ∧ m ≤ d ∧ d ≤ maxLen ∧ Own eCel 3 46 wr w.heap.size (.slice B m d) out ∧ Hid (cellsOf xs = cellsR xs p out) ∧ Below w.heap.size w wr)
  case atStart => exact ⟨0, 0, 0, some ⟨w.heap.size, 0, none⟩, [], by omega, by omega, rfl, rfl, rfl, by omega, Nat.le_refl _, by unfold maxLen; omega, Own.lit w _ [] 0 (Nat.le_refl _) rfl (by unfold maxLen; omega) ⟨rfl, fun i x hx => by simp at hx⟩, rfl, by (repeat' (first | (with_reducible exact Below.refl _ _) | (with_reducible assumption) | (with_reducible refine Below.alloc ?_ ?_ _) | (with_reducible refine bdN ?_ _) | (with_reducible refine Below.drew ?_) | (with_reducible refine Below.setCell ?_ ?_ _) | go_size))⟩
  case round =>
    obtain ⟨p, m, d, B, out, rfl, hp, rfl, rfl, hlen, hm4, hd1, hd2, ho, HE, hG⟩ := hrel
    by_cases hlt : p < n
    · obtain ⟨L, hLe⟩ : ∃ L, (shownL xs p m).1 = L := ⟨_, rfl⟩
      obtain ⟨q, hqe⟩ : ∃ q : Nat, (shownL xs p m).2 = (q : Int) := ⟨(shownL xs p m).2.toNat, by have := shown_n (xs := xs) (i := p) (by rw [HN.out]; exact hlt) m; omega⟩
      obtain ⟨hq1, hq2, hq3, hq4⟩ := shown_n (xs := xs) (i := p) (by rw [HN.out]; exact hlt) m
      rw [hqe] at hq1 hq2 hq3
      rw [HN.out, Int.toNat_natCast] at hq3
      rw [hLe] at hq4
      have HS := Lib.hid (show shownL xs p m = (L, (q : Int)) from Prod.ext hLe hqe)
      have HLe := Lib.hid hlen
      have HO := Lib.hid ho
      clear hLe hqe ho hlen
      go_wp2_with (fail)
      refine l1Shown_c A n c xs p m _ HN.out (HX.out.below hG) HB.out hm hlt (by omega) L q HS.out _ ?_
      intro A1 c1 w1 ho1 hc1 hm1 hb1
      obtain ⟨k, hk⟩ : ∃ k, L.length = k := ⟨_, rfl⟩
      rw [hk] at ho1 hc1 hq4 ⊢
      have HK := Lib.hid hk
      have HO1 := Lib.hid ho1
      have HO2 := Lib.hid (HO.out.below hb1)
      have hG1 := hG.trans (hb1.mono hG.size)
      clear ho1 hk hb1 HO
      go_wp2_with (fail)
      go_loopg [3, 7] k (fun gk v3 v7 wr => ∃ (j m' d' : Nat) (B' : Option Addr) (out' : List Cel), gk = k - j ∧ j ≤ k ∧ v3 = .slice B' m' d' ∧ v7 = .int .i64 j ∧ out'.length = m' ∧ m' = m + j ∧ m' ≤ d' ∧ d' ≤ maxLen ∧ Own eCel 3 46 wr w.heap.size (.slice B' m' d') out' ∧ Own eI 1 2 wr 0 (.slice A1 k c1) L ∧ Hid (out' = out ++ (L.take j).map fun c => (⟨c, p, q⟩ : Cel)) ∧ Below w.heap.size w wr)
      case atStart => exact ⟨0, m, d, B, out, rfl, by omega, rfl, rfl, HLe.out, rfl, hd1, hd2, HO2.out, HO1.out.lower (by omega), by simp [Hid], hG1⟩
      case round =>
        obtain ⟨j, m', d', B', out', rfl, hj, rfl, rfl, hlen', hmj, hd1', hd2', ho', hoL, HF, hG'⟩ := hrel
        by_cases hjk : j < k
        · obtain ⟨x, hx⟩ := get_lt (xs := L) (i := j) (by rw [HK.out]; exact hjk)
          obtain ⟨ad, rfl, a0⟩ := hoL.rowOf.eI hx
          have HO' := Lib.hid ho'
          have HOL := Lib.hid hoL
          have HLen := Lib.hid hlen'
          have HX' := Lib.hid hx
          have hbd : (out'.length + 1) * 24 ≤ 140737488355328 := by rw [hlen']; omega
          have hbd2 : out'.length + 1 ≤ maxLen := by rw [hlen']; unfold maxLen; omega
          have HBD := Lib.hid hbd
          have HBD2 := Lib.hid hbd2
          clear ho' hoL hlen' hx hbd hbd2
          go_wp2_with (first | (at_builtin; refine wp_append1 eCel 3 _ w.heap.size rfl _ _ 38 46 46 rfl Try.underlying38 (.agg #[.int .i64 0, .int .i64 0, .int .i64 0]) 24 info_cell ⟨0, 0, 0⟩ rfl eCel_len (by decide) eCel_one _ out' rfl HO'.out ⟨x, p, q⟩ _ rfl rfl HBD.out HBD2.out hG'.size ?_; intro v' w' ho' hg'))
          go_roundg (k - (j + 1))
          case measure => omega
          case rel =>
            obtain ⟨B2, d2, rfl, h1, h2, _⟩ := ho'.row
            have hll : (out' ++ [(⟨x, p, q⟩ : Cel)]).length = m' + 1 := by rw [List.length_append, HLen.out]; rfl
            rw [hll] at h1 ho' ⊢
            refine ⟨j + 1, m' + 1, d2, B2, _, rfl, by omega, rfl, by go_num, hll, by omega, h1, h2, ho', HOL.out.grown hg' (HOL.out.apart_ty HO'.out (by decide)), ?_, below_own hG' hg' (fun g e => (HO'.out.lt e).1) hG'.size⟩
            simp only [Hid]
            rw [HF.out, List.take_add_one, HX'.out]
            simp
        · have hjk2 : j = k := by omega
          subst hjk2
          have HO' := Lib.hid ho'
          have HLen := Lib.hid hlen'
          clear ho' hoL hlen'
          go_wp2_with (fail)
          go_roundg (n - (p + q))
          case measure => omega
          case rel =>
            refine ⟨p + q, m', d', B', out', rfl, hq3, rfl, by go_num, HLen.out, by omega, hd1', hd2', HO'.out, ?_, hG'⟩
            simp only [Hid]
            rw [HE.out, cellsR_step (by rw [HN.out]; exact hlt), HLe.out, HS.out]
            simp only [Int.toNat_natCast]
            congr 1
            rw [HF.out, cellsAt, HS.out, List.take_of_length_le (by rw [HK.out]; exact Nat.le_refl _)]
    · have hpn : p = n := by omega
      subst hpn
      have hcl : cellsOf xs = out := by rw [HE.out, cellsR_end (by rw [HN.out]; omega)]
      have HO := Lib.hid ho
      have HLe := Lib.hid hlen
      clear ho hlen
      go_wp2_with (fail)
      go_ret
      have := H.out B d _ (by rw [hcl, HLe.out]; exact HO.out) (by rw [hcl, HLe.out]; exact hd1) hd2 hG
      rw [hcl, HLe.out] at this
      exact this
end Go.Proofs.Ytcinaflmpdmdaaa
