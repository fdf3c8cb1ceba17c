/- Part 2 of what the proof of FnExactRowCells needs: contracts of functions, as plain functions over numbers and lists, and laws of these. -/
import Derived.Test.YtcinaflmpdmdaaaCFnExactRowCells0
import Derived.Test.YtcinaflmpdmdaaaWWords
import Derived.Lib.SliceRun
import Derived.Test.YtcinaflmpdmdaaaWMore
set_option linter.unusedVariables false
set_option linter.unusedSimpArgs false
section
namespace Go.Proofs.Ytcinaflmpdmdaaa.M
open Go.RowKit
def hexF (v : Int) : Int := if v < 10 then 48 + v else 55 + v
def shownL (xs : List Int) (i col : Nat) : List Int × Int :=
  if bt xs i = 9 then (List.replicate (4 - col % 4) 32, 1)
  else if bt xs i < 32 ∨ bt xs i = 127 then ([94, bits .xor .u8 (bt xs i) 64], 1)
  else if (dec xs i).2 = 0 then ([60, hexF (bt xs i / 16), hexF (bt xs i % 16), 62], 1)
  else ([(dec xs i).1], (dec xs i).2)
def hexS : ByteArray := ⟨#[48, 49, 50, 51, 52, 53, 54, 55, 56, 57, 65, 66, 67, 68, 69, 70]⟩
theorem hex_get (k : Nat) (h : k < hexS.size) : ((hexS[k]'h).toNat : Int) = hexF k := by
  have hk : k < 16 := h
  have : k = 0 ∨ k = 1 ∨ k = 2 ∨ k = 3 ∨ k = 4 ∨ k = 5 ∨ k = 6 ∨ k = 7 ∨ k = 8 ∨ k = 9 ∨ k = 10 ∨ k = 11 ∨ k = 12 ∨ k = 13 ∨ k = 14 ∨ k = 15 := by omega
  rcases this with rfl | rfl | rfl | rfl | rfl | rfl | rfl | rfl | rfl | rfl | rfl | rfl | rfl | rfl | rfl | rfl <;> rfl
theorem hexF_in (k : Int) (h0 : 0 ≤ k) (h1 : k < 16) : 48 ≤ hexF k ∧ hexF k ≤ 70 := by unfold hexF; split <;> omega
theorem hex_at (v : Int) (h0 : 0 ≤ v) (h1 : v < 16) (h : v.toNat < hexS.size) : wrap64 ((hexS[v.toNat]'h).toNat : Int) = hexF v := by
  have e := hex_get v.toNat h
  have e1 : ((v.toNat : Nat) : Int) = v := by omega
  have e2 := hexF_in v h0 h1
  rw [e1] at e
  rw [e]
  exact IntWalk.wrap64_in _ (by omega)
theorem l1Digit_c (v : Int) (h0 : 0 ≤ v) (h1 : v < 16) (w : World) (R : Ending → World → Prop) (h : R (.returned (.int .i64 (hexF v))) w) : Calls Try.prog 122 #[.int .u8 v] w R := by
  obtain ⟨k, rfl⟩ : ∃ k : Nat, v = (k : Int) := ⟨v.toNat, by omega⟩
  have hk : k < 16 := by omega
  have H := Lib.hid h
  clear h
  (change Calls _ _ _ _ (Fin R); go_enter Try.func122, Try.ntmps122)
  go_wp2
  go_ret
  refine retI H.out ?_
  have e := hex_get k (show k < hexS.size from hk)
  have e2 := hexF_in k (by omega) (by omega)
  have e3 : ∀ (z : Int), z = hexF k → wrap64 z = hexF k := fun z hz => by rw [hz]; exact IntWalk.wrap64_in _ (by omega)
  exact e3 _ e
theorem xor_in (b : Int) (h0 : 0 ≤ b) (h1 : b ≤ 127) : 0 ≤ bits .xor .u8 b 64 ∧ bits .xor .u8 b 64 ≤ 127 := by
  obtain ⟨k, rfl⟩ : ∃ k : Nat, b = (k : Int) := ⟨b.toNat, by omega⟩
  have h : ∀ k : Nat, k < 128 → (decide (0 ≤ bits .xor .u8 (k : Int) 64 ∧ bits .xor .u8 (k : Int) 64 ≤ 127)) = true := by decide +kernel
  exact of_decide_eq_true (h k (by omega))
theorem info_i64 : (Try.prog.info? 2).map (fun i => (i.zero, i.size, i.bytes)) = some (some (.int .i64 0), 1, 8) := by kernel_rfl
theorem eI_one (y : Int) : ∀ u ∈ eI y, u.oneCell' = true := by simp [eI, Value.oneCell']
theorem ret_shown {R : Ending → World → Prop} {w : World} {A : Option Addr} {n n' c : Nat} {m m' : Int} (h : R (.returned (.tuple #[.slice A n c, .int .i64 m])) w) (e1 : n' = n) (e2 : m' = m) : Fin R (.returned (.tuple #[.slice A n' c, .int .i64 m'])) w := by rw [e1, e2]; exact h
set_option maxHeartbeats 2000000 in
theorem l1Shown_c (A : Option Addr) (n c : Nat) (xs : List Int) (i col : Nat) (w : World) (hn : xs.length = n) (hx : Row eU 1 w A xs) (hB : Byt xs) (hm : n ≤ 1048576) (hi : i < n) (hcol : col ≤ 16777216) (L : List Int) (m : Int) (hL : shownL xs i col = (L, m))
    (R : Ending → World → Prop) (h : ∀ A' c' w', Own eI 1 2 w' w.heap.size (.slice A' L.length c') L → L.length ≤ c' → c' ≤ maxLen → Below w.heap.size w w' → R (.returned (.tuple #[.slice A' L.length c', .int .i64 m])) w') :
    Calls Try.prog 100 #[.slice A n c, .int .i64 i, .int .i64 col] w R := by
  have H := Lib.hid h
  have HL := Lib.hid hL
  clear h hL
  obtain ⟨b, hb⟩ := get_lt (xs := xs) (i := i) (by omega)
  obtain ⟨ad, rfl, a0⟩ := hx.eU hb
  obtain ⟨hb1, hb2⟩ := hB i b hb
  have hbt : bt xs i = b := by simp [bt, hb]
  have HR := Lib.hid hx
  have HB := Lib.hid hB
  have HN := Lib.hid hn
  have HT := Lib.hid hbt
  have HI := Lib.hid hi
  obtain ⟨d, hd⟩ : ∃ d, dec xs i = d := ⟨_, rfl⟩
  obtain ⟨ch, us⟩ := d
  have HD := Lib.hid hd
  clear hx hB hn hbt hb hd
  have key : ∀ (W : World) (l : List Int) (k : Nat) (q : Int), Below w.heap.size w W → L = l → k = l.length → q = m → l.length ≤ 8 → Fin R (.returned (.tuple #[.slice (some ⟨W.heap.size, 0, none⟩) k k, .int .i64 q])) (W.alloc (.cells (l.map (Value.int .i64)).toArray 2)) := fun W l k q hG hl hk hq h8 => by
    subst hl hk hq
    refine H.out _ _ _ (Own.lower (Own.lit W _ L L.length (Nat.le_refl _) rfl ?_ (Enc.map _ L)) hG.size) (Nat.le_refl _) ?_ (Below.alloc hG hG.size _)
    · unfold maxLen; omega
    · unfold maxLen; omega
  have K := Lib.hid key
  clear key
  by_cases h9 : b = 9
  · subst h9
    have hs : shownL xs i col = (List.replicate (4 - col % 4) 32, 1) := by unfold shownL; rw [HT.out, if_pos rfl]
    rw [HL.out] at hs
    have hL := Lib.hid (congrArg Prod.fst hs)
    have hM := Lib.hid (congrArg Prod.snd hs)
    obtain ⟨k0, hk0⟩ : ∃ k0, col % 4 = k0 := ⟨_, rfl⟩
    have hk1 : k0 < 4 := by omega
    have hk2 : (col : Int) % 4 = (k0 : Int) := by omega
    rw [hk0] at hL
    clear hs hk0
    (change Calls _ _ _ _ (Fin R); go_enter Try.func100, Try.ntmps100)
    go_wp2_with (fail)
    go_loopg [9, 10] (4 - k0) (fun gk v9 v10 wr => ∃ (j : Nat) (B : Option Addr) (d : Nat), gk = 4 - k0 - j ∧ k0 + j ≤ 4 ∧ v9 = .slice B j d ∧ v10 = .int .i64 ((k0 + j : Nat) : Int) ∧ j ≤ d ∧ d ≤ maxLen ∧ Own eI 1 2 wr w.heap.size (.slice B j d) (List.replicate j 32) ∧ Below w.heap.size w wr)
    case atStart => exact ⟨0, some ⟨w.heap.size, 0, none⟩, 0, by omega, by omega, rfl, rfl, Nat.le_refl _, by unfold maxLen; omega, Own.lit w _ [] 0 (Nat.le_refl _) rfl (by unfold maxLen; omega) (Enc.map _ []), by (repeat' (first | (with_reducible exact Below.refl _ _) | (with_reducible assumption) | (with_reducible refine Below.alloc ?_ ?_ _) | (with_reducible refine bdN ?_ _) | (with_reducible refine Below.drew ?_) | (with_reducible refine Below.setCell ?_ ?_ _) | go_size))⟩
    case round =>
      obtain ⟨j, B, d, rfl, hj, rfl, rfl, hd1, hd2, ho, hG⟩ := hrel
      by_cases hlt : k0 + j < 4
      · have HO := Lib.hid ho
        clear ho
        go_wp2_with (first | (at_builtin; refine wp_append1 eI 1 _ w.heap.size rfl _ _ 75 2 2 rfl Try.underlying75 (.int .i64 0) 8 info_i64 0 rfl eI_len (by decide) eI_one _ (List.replicate j 32) rfl HO.out 32 _ rfl rfl (by simp; omega) (by simp; unfold maxLen; omega) hG.size ?_; intro v' w' ho' hg'))
        go_roundg (4 - k0 - (j + 1))
        case measure => omega
        case rel =>
          rw [← List.replicate_succ'] at ho'
          obtain ⟨B', d', rfl, h1, h2, _⟩ := ho'.row
          rw [List.length_replicate] at h1 ho' ⊢
          exact ⟨j + 1, B', d', rfl, by omega, rfl, by go_num, h1, h2, ho', below_own hG hg' (fun g e => (HO.out.lt e).1) hG.size⟩
      · have hj4 : j = 4 - k0 := by omega
        subst hj4
        have HO := Lib.hid ho
        clear ho
        go_wp2
        go_ret2
        have hl := hL.out
        have hmm := hM.out
        change L = _ at hl
        change m = _ at hmm
        subst hl hmm
        refine ret_shown (H.out B d _ ?_ ?_ hd2 hG) (by simp) rfl
        · rw [List.length_replicate]; exact HO.out
        · rw [List.length_replicate]; exact hd1
  by_cases h32 : b < 32 ∨ b = 127
  · have hs : shownL xs i col = ([94, bits .xor .u8 b 64], 1) := by unfold shownL; rw [HT.out, if_neg h9, if_pos h32]
    rw [HL.out] at hs
    have hL := Lib.hid (congrArg Prod.fst hs)
    have hM := Lib.hid (congrArg Prod.snd hs)
    obtain ⟨x0, x1⟩ := xor_in b (by omega) (by omega)
    clear hs
    rcases h32 with hlt | rfl
    all_goals
      (change Calls _ _ _ _ (Fin R); go_enter Try.func100, Try.ntmps100)
      go_wp2_with (fail)
      go_ret2
      exact K.out _ [94, bits .xor .u8 _ 64] 2 1 (Below.refl _ _) hL.out rfl hM.out.symm (by simp)
  have hdig1 : 0 ≤ b / 16 ∧ b / 16 < 16 := by omega
  have h1 : ¬ b < 32 := by omega
  have h2 : ¬ b = 127 := by omega
  by_cases hu : us = 0
  · have hs : shownL xs i col = ([60, hexF (b / 16), hexF (b % 16), 62], 1) := by unfold shownL; rw [HT.out, if_neg h9, if_neg h32, HD.out, if_pos hu]
    rw [HL.out] at hs
    have hL := Lib.hid (congrArg Prod.fst hs)
    have hM := Lib.hid (congrArg Prod.snd hs)
    clear hs h32
    (change Calls _ _ _ _ (Fin R); go_enter Try.func100, Try.ntmps100)
    go_wp2_with (fail)
    refine l1Decode_c (some ad) n c xs i _ HN.out HR.out HB.out hm HI.out _ ?_
    rw [HD.out]
    go_wp2_with (first | (go_at_call 122; refine l1Digit_c _ (by omega) (by omega) _ _ ?_))
    go_ret2
    exact K.out _ [60, hexF (b / 16), hexF (b % 16), 62] 4 1 (Below.refl _ _) hL.out rfl hM.out.symm (by simp)
  · have hs : shownL xs i col = ([ch], us) := by unfold shownL; rw [HT.out, if_neg h9, if_neg h32, HD.out, if_neg hu]
    rw [HL.out] at hs
    have hL := Lib.hid (congrArg Prod.fst hs)
    have hM := Lib.hid (congrArg Prod.snd hs)
    clear hs h32
    (change Calls _ _ _ _ (Fin R); go_enter Try.func100, Try.ntmps100)
    go_wp2_with (fail)
    refine l1Decode_c (some ad) n c xs i _ HN.out HR.out HB.out hm HI.out _ ?_
    rw [HD.out]
    go_wp2_with (fail)
    go_ret2
    exact K.out _ [ch] 1 us (Below.refl _ _) hL.out rfl hM.out.symm (by simp)
end Go.Proofs.Ytcinaflmpdmdaaa.M
end
section
namespace Go.Proofs.Ytcinaflmpdmdaaa.M
open Go.RowKit
theorem dec_n {xs : List Int} {i : Nat} (hi : i < xs.length) (h : (dec xs i).2 ≠ 0) : 1 ≤ (dec xs i).2 ∧ (dec xs i).2 ≤ 3 ∧ i + (dec xs i).2.toNat ≤ xs.length := by
  unfold dec at h ⊢
  split
  · simp; omega
  · rename_i h1
    rw [if_neg h1] at h
    split
    · rename_i h2
      have : ¬ xs.length ≤ i + 1 := fun e => by have := more_out e; omega
      simp
      omega
    · rename_i h2
      rw [if_neg h2] at h
      split
      · rename_i h3
        have : ¬ xs.length ≤ i + 2 := fun e => by have := more_out e; omega
        simp
        omega
      · rename_i h3
        rw [if_neg h3] at h
        exact absurd rfl h
theorem shown_n {xs : List Int} {i : Nat} (hi : i < xs.length) (col : Nat) : 1 ≤ (shownL xs i col).2 ∧ (shownL xs i col).2 ≤ 3 ∧ i + (shownL xs i col).2.toNat ≤ xs.length ∧ (shownL xs i col).1.length ≤ 4 := by
  unfold shownL
  split
  · simp; omega
  · split
    · simp; omega
    · split
      · simp; omega
      · rename_i h
        obtain ⟨a, b, c⟩ := dec_n hi h
        simp only [List.length_cons, List.length_nil]
        omega
def cellsAt (xs : List Int) (p : Nat) (col : Nat) : List Cel := (shownL xs p col).1.map fun c => ⟨c, p, (shownL xs p col).2⟩
def cellsR (xs : List Int) (p : Nat) (out : List Cel) : List Cel :=
  if p < xs.length then cellsR xs (p + (shownL xs p out.length).2.toNat) (out ++ cellsAt xs p out.length) else out
termination_by xs.length - p
decreasing_by
  rename_i h
  have := shown_n h out.length
  omega
theorem cellsR_step {xs : List Int} {p : Nat} (h : p < xs.length) (out : List Cel) : cellsR xs p out = cellsR xs (p + (shownL xs p out.length).2.toNat) (out ++ cellsAt xs p out.length) := by
  rw [cellsR, if_pos h]
theorem cellsR_end {xs : List Int} {p : Nat} (h : ¬ p < xs.length) (out : List Cel) : cellsR xs p out = out := by
  rw [cellsR, if_neg h]
def cellsOf (xs : List Int) : List Cel := cellsR xs 0 []
theorem info_cell : (Try.prog.info? 46).map (fun i => (i.zero, i.size, i.bytes)) = some (some (.agg #[.int .i64 0, .int .i64 0, .int .i64 0]), 3, 24) := by kernel_rfl
theorem eCel_one (y : Cel) : ∀ u ∈ eCel y, u.oneCell' = true := by simp [eCel, Value.oneCell']
set_option maxHeartbeats 2000000 in
theorem l1Cells_c (A : Option Addr) (n c : Nat) (xs : List Int) (w : World) (hn : xs.length = n) (hx : Row eU 1 w A xs) (hB : Byt xs) (hm : n ≤ 1048576)
    (R : Ending → World → Prop) (h : ∀ A' c' w', Own eCel 3 46 w' w.heap.size (.slice A' (cellsOf xs).length c') (cellsOf xs) → (cellsOf xs).length ≤ c' → c' ≤ maxLen → Below w.heap.size w w' → R (.returned (.slice A' (cellsOf xs).length c')) w') :
    Calls Try.prog 57 #[.slice A n c] w R := by
  have H := Lib.hid h
  have HX := Lib.hid hx
  have HB := Lib.hid hB
  have HN := Lib.hid hn
  clear h hx hB hn
  (change Calls _ _ _ _ (Fin R); go_enter Try.func57, Try.ntmps57)
  go_wp2_with (fail)
  go_loopg [3, 4] n (fun gk v3 v4 wr => ∃ (p m d : Nat) (B : Option Addr) (out : List Cel), gk = n - p ∧ p ≤ n ∧ v3 = .slice B m d ∧ v4 = .int .i64 p ∧ out.length = m ∧ m ≤ 4 * p ∧ m ≤ d ∧ d ≤ maxLen ∧ Own eCel 3 46 wr w.heap.size (.slice B m d) out ∧ Hid (cellsOf xs = cellsR xs p out) ∧ Below w.heap.size w wr)
  case atStart => exact ⟨0, 0, 0, some ⟨w.heap.size, 0, none⟩, [], by omega, by omega, rfl, rfl, rfl, by omega, Nat.le_refl _, by unfold maxLen; omega, Own.lit w _ [] 0 (Nat.le_refl _) rfl (by unfold maxLen; omega) ⟨rfl, fun i x hx => by simp at hx⟩, rfl, by (repeat' (first | (with_reducible exact Below.refl _ _) | (with_reducible assumption) | (with_reducible refine Below.alloc ?_ ?_ _) | (with_reducible refine bdN ?_ _) | (with_reducible refine Below.drew ?_) | (with_reducible refine Below.setCell ?_ ?_ _) | go_size))⟩
  case round =>
    obtain ⟨p, m, d, B, out, rfl, hp, rfl, rfl, hlen, hm4, hd1, hd2, ho, HE, hG⟩ := hrel
    by_cases hlt : p < n
    · obtain ⟨L, hLe⟩ : ∃ L, (shownL xs p m).1 = L := ⟨_, rfl⟩
      obtain ⟨q, hqe⟩ : ∃ q : Nat, (shownL xs p m).2 = (q : Int) := ⟨(shownL xs p m).2.toNat, by have := shown_n (xs := xs) (i := p) (by rw [HN.out]; exact hlt) m; omega⟩
      obtain ⟨hq1, hq2, hq3, hq4⟩ := shown_n (xs := xs) (i := p) (by rw [HN.out]; exact hlt) m
      rw [hqe] at hq1 hq2 hq3
      rw [HN.out, Int.toNat_natCast] at hq3
      rw [hLe] at hq4
      have HS := Lib.hid (show shownL xs p m = (L, (q : Int)) from Prod.ext hLe hqe)
      have HLe := Lib.hid hlen
      have HO := Lib.hid ho
      clear hLe hqe ho hlen
      go_wp2_with (fail)
      refine l1Shown_c A n c xs p m _ HN.out (HX.out.below hG) HB.out hm hlt (by omega) L q HS.out _ ?_
      intro A1 c1 w1 ho1 hc1 hm1 hb1
      obtain ⟨k, hk⟩ : ∃ k, L.length = k := ⟨_, rfl⟩
      rw [hk] at ho1 hc1 hq4 ⊢
      have HK := Lib.hid hk
      have HO1 := Lib.hid ho1
      have HO2 := Lib.hid (HO.out.below hb1)
      have hG1 := hG.trans (hb1.mono hG.size)
      clear ho1 hk hb1 HO
      go_wp2_with (fail)
      go_loopg [3, 7] k (fun gk v3 v7 wr => ∃ (j m' d' : Nat) (B' : Option Addr) (out' : List Cel), gk = k - j ∧ j ≤ k ∧ v3 = .slice B' m' d' ∧ v7 = .int .i64 j ∧ out'.length = m' ∧ m' = m + j ∧ m' ≤ d' ∧ d' ≤ maxLen ∧ Own eCel 3 46 wr w.heap.size (.slice B' m' d') out' ∧ Own eI 1 2 wr 0 (.slice A1 k c1) L ∧ Hid (out' = out ++ (L.take j).map fun c => (⟨c, p, q⟩ : Cel)) ∧ Below w.heap.size w wr)
      case atStart => exact ⟨0, m, d, B, out, rfl, by omega, rfl, rfl, HLe.out, rfl, hd1, hd2, HO2.out, HO1.out.lower (by omega), by simp [Hid], hG1⟩
      case round =>
        obtain ⟨j, m', d', B', out', rfl, hj, rfl, rfl, hlen', hmj, hd1', hd2', ho', hoL, HF, hG'⟩ := hrel
        by_cases hjk : j < k
        · obtain ⟨x, hx⟩ := get_lt (xs := L) (i := j) (by rw [HK.out]; exact hjk)
          obtain ⟨ad, rfl, a0⟩ := hoL.rowOf.eI hx
          have HO' := Lib.hid ho'
          have HOL := Lib.hid hoL
          have HLen := Lib.hid hlen'
          have HX' := Lib.hid hx
          have hbd : (out'.length + 1) * 24 ≤ 140737488355328 := by rw [hlen']; omega
          have hbd2 : out'.length + 1 ≤ maxLen := by rw [hlen']; unfold maxLen; omega
          have HBD := Lib.hid hbd
          have HBD2 := Lib.hid hbd2
          clear ho' hoL hlen' hx hbd hbd2
          go_wp2_with (first | (at_builtin; refine wp_append1 eCel 3 _ w.heap.size rfl _ _ 38 46 46 rfl Try.underlying38 (.agg #[.int .i64 0, .int .i64 0, .int .i64 0]) 24 info_cell ⟨0, 0, 0⟩ rfl eCel_len (by decide) eCel_one _ out' rfl HO'.out ⟨x, p, q⟩ _ rfl rfl HBD.out HBD2.out hG'.size ?_; intro v' w' ho' hg'))
          go_roundg (k - (j + 1))
          case measure => omega
          case rel =>
            obtain ⟨B2, d2, rfl, h1, h2, _⟩ := ho'.row
            have hll : (out' ++ [(⟨x, p, q⟩ : Cel)]).length = m' + 1 := by rw [List.length_append, HLen.out]; rfl
            rw [hll] at h1 ho' ⊢
            refine ⟨j + 1, m' + 1, d2, B2, _, rfl, by omega, rfl, by go_num, hll, by omega, h1, h2, ho', HOL.out.grown hg' (HOL.out.apart_ty HO'.out (by decide)), ?_, below_own hG' hg' (fun g e => (HO'.out.lt e).1) hG'.size⟩
            simp only [Hid]
            rw [HF.out, List.take_add_one, HX'.out]
            simp
        · have hjk2 : j = k := by omega
          subst hjk2
          have HO' := Lib.hid ho'
          have HLen := Lib.hid hlen'
          clear ho' hoL hlen'
          go_wp2_with (fail)
          go_roundg (n - (p + q))
          case measure => omega
          case rel =>
            refine ⟨p + q, m', d', B', out', rfl, hq3, rfl, by go_num, HLen.out, by omega, hd1', hd2', HO'.out, ?_, hG'⟩
            simp only [Hid]
            rw [HE.out, cellsR_step (by rw [HN.out]; exact hlt), HLe.out, HS.out]
            simp only [Int.toNat_natCast]
            congr 1
            rw [HF.out, cellsAt, HS.out, List.take_of_length_le (by rw [HK.out]; exact Nat.le_refl _)]
    · have hpn : p = n := by omega
      subst hpn
      have hcl : cellsOf xs = out := by rw [HE.out, cellsR_end (by rw [HN.out]; omega)]
      have HO := Lib.hid ho
      have HLe := Lib.hid hlen
      clear ho hlen
      go_wp2_with (fail)
      go_ret
      have := H.out B d _ (by rw [hcl, HLe.out]; exact HO.out) (by rw [hcl, HLe.out]; exact hd1) hd2 hG
      rw [hcl, HLe.out] at this
      exact this
end Go.Proofs.Ytcinaflmpdmdaaa.M
end
section
namespace Go.Proofs.Ytcinaflmpdmdaaa.M
open Go.RowKit
set_option maxRecDepth 20000 in
set_option maxHeartbeats 4000000 in
theorem DecodeAt_1 (A : Option Addr) (n c : Nat) (xs : List Int) (i : Nat) (w : World) (hn : xs.length = n) (hx : Row eU 1 w A xs) (hB : Byt xs) (hc : n ≤ c) (hm : n ≤ 1048576) (hi : i + 0 < n) (hlt : bt xs i < 192)
    (R : Ending → World → Prop) (h : ∀ w', Below w.heap.size w w' → R (.returned (.agg #[.int .i64 (decR xs i).1, .int .i64 (decR xs i).2.1, .int .i64 (decR xs i).2.2])) w') :
    Calls Try.prog 101 #[.slice A n c, .int .i64 i] w R := by
  have H := Lib.hid h
  clear h
  obtain ⟨b, hb⟩ := get_lt (xs := xs) (i := i) (by omega)
  obtain ⟨ad, rfl, a0⟩ := hx.eU hb
  obtain ⟨hb1, hb2⟩ := hB i b hb
  have hbt : bt xs i = b := by simp [bt, hb]

  rw [hbt] at hlt
  have HD := Lib.hid (decR_one hbt hb1 hlt)
  have q1 : inB i 0 ((n : Int) - 1) = true := by simp [inB]; omega
  obtain ⟨W, hW⟩ : ∃ W, W = w.alloc (Obj.cells #[.int .i64 0, .int .i64 0, .int .i64 0] 125) := ⟨_, rfl⟩
  obtain ⟨b1, f1, hz, G0⟩ := box1 _ _ _ W hW
  have HW := Lib.hid hW
  have GG : Below w.heap.size w W := by rw [hW]; (repeat' (first | (with_reducible exact Below.refl _ _) | (with_reducible assumption) | (with_reducible refine Below.alloc ?_ ?_ _) | (with_reducible refine bdN ?_ _) | (with_reducible refine Below.drew ?_) | (with_reducible refine Below.setCell ?_ ?_ _) | go_size))
  replace a0 := cell_below GG a0

  have htk : (xs.drop i).take 1 = [b] := by rw [drop_cons hb]; rfl
  have hsub : Row eU 1 W (some (ad.add i)) [b] := by
    have := (hx.below GG).sub i 1
    rwa [htk, Nat.mul_one] at this
  have hc64 := Lib.hid (show ∀ w' : World, (∀ p, (W.cell? p).isSome = true → w'.cell? p = W.cell? p) → ∀ cap, (convert 28 9 (.slice (some (ad.add i)) 1 cap)).run Try.prog w' = .ok (.string (strOfNums [b])) w' from fun w' hk cap => conv_row _ 1 cap [b] w' rfl (hsub.keeps hk) (by decide))
  have hsubB : Byt [b] := fun j y hj => hB (i + j) y (by have := hj; rw [← htk, List.getElem?_take] at this; split at this; rwa [List.getElem?_drop] at this; cases this)
  have i1 : (1 : Int) ≤ ((n - i : Nat) : Int) := by omega
  have i2 : (1 : Int) ≤ ((c - i : Nat) : Int) := by omega
  clear hbt hx hB hb hn hW GG hsub htk 
  have q2 : isChr b = true := by simp [isChr, inB]; omega
  have HT := Lib.hid (show (!(strOfNums (enc b)).toList == (strOfNums [b]).toList) = false → decR xs i = (0, b, 1) from fun e => by rw [HD.out, if_pos (strNe_f (enc_byt (by omega) (by omega)) (fun j y hj => hsubB j y hj) e)])
  have HF := Lib.hid (show (!(strOfNums (enc b)).toList == (strOfNums [b]).toList) = true → decR xs i = (5, 0, 0) from fun e => by rw [HD.out, if_neg (strNe_t e)])
  clear hsubB
  (change Calls _ _ _ _ (Fin R); go_enter Try.func101, Try.ntmps101)
  go_wp2_with (fail)
  rw [← HW.out]
  refine within_c _ _ _ _ q1 _ _ ?_
  go_wp2_with (fail)
  all_goals
    refine wp_loop_rounds 1 ?_
    rw [rounds_succ]
    go_wp2_with (fail)
    have e0 := hc64.out W.drew (keeps_refl _)
    go_region_with (first | (go_at_call 107; (with_reducible refine isChar_c _ _ q2 _ _ ?_)) | (go_at_call 70; refine encoded_c b (by omega) (by omega) _ _ ?_; intro A' c' w1 ho1 hc1 hm1 hbe; have ee := conv_row A' _ c' _ w1 rfl ho1.rowOf (enc_pos b); have e2 := hc64.out _ (keeps_below (below_drew hbe)); have b2 := blk_keep b1 (by omega) (below_drew hbe); have f2 := frz_keep f1 (by omega) (below_drew hbe); have g2 := G0.trans ((below_drew hbe).mono G0.size); clear hbe ho1))
    all_goals clear e0
    all_goals go_wp2
    all_goals (refine bodyPost_ret (by simp [results, Try.results101, go_sem, b2]; try rfl) rfl ?_)
    all_goals (refine retV (H.out _ (by (repeat' (first | (with_reducible exact Below.refl _ _) | (with_reducible assumption) | (with_reducible refine Below.alloc ?_ ?_ _) | (with_reducible refine bdN ?_ _) | (with_reducible refine Below.drew ?_) | (with_reducible refine Below.setCell ?_ ?_ _) | go_size)))) ?_; first | rw [HT.out (by assumption)] | rw [HF.out (by assumption)])
end Go.Proofs.Ytcinaflmpdmdaaa.M
end
section
namespace Go.Proofs.Ytcinaflmpdmdaaa.M
open Go.RowKit
set_option maxRecDepth 20000 in
set_option maxHeartbeats 4000000 in
theorem DecodeAt_2 (A : Option Addr) (n c : Nat) (xs : List Int) (i : Nat) (w : World) (hn : xs.length = n) (hx : Row eU 1 w A xs) (hB : Byt xs) (hc : n ≤ c) (hm : n ≤ 1048576) (hi : i + 1 < n) (hlt : bt xs i < 224) (hge : 192 ≤ bt xs i)
    (R : Ending → World → Prop) (h : ∀ w', Below w.heap.size w w' → R (.returned (.agg #[.int .i64 (decR xs i).1, .int .i64 (decR xs i).2.1, .int .i64 (decR xs i).2.2])) w') :
    Calls Try.prog 101 #[.slice A n c, .int .i64 i] w R := by
  have H := Lib.hid h
  clear h
  obtain ⟨b, hb⟩ := get_lt (xs := xs) (i := i) (by omega)
  obtain ⟨ad, rfl, a0⟩ := hx.eU hb
  obtain ⟨hb1, hb2⟩ := hB i b hb
  have hbt : bt xs i = b := by simp [bt, hb]
  obtain ⟨x, hxx⟩ := get_lt (xs := xs) (i := i + 1) (by omega)
  obtain ⟨ad', e', a1⟩ := hx.eU hxx
  obtain rfl := Option.some.inj e'
  clear e'
  obtain ⟨hx1, hx2⟩ := hB (i + 1) x hxx
  have hxt : bt xs (i + 1) = x := by simp [bt, hxx]
  rw [hbt] at hge
  rw [hbt] at hlt
  have HD := Lib.hid (decR_two hbt hxt hge hlt hx1 hx2 (by omega))
  have q1 : inB i 0 ((n : Int) - 1) = true := by simp [inB]; omega
  obtain ⟨W, hW⟩ : ∃ W, W = w.alloc (Obj.cells #[.int .i64 0, .int .i64 0, .int .i64 0] 125) := ⟨_, rfl⟩
  obtain ⟨b1, f1, hz, G0⟩ := box1 _ _ _ W hW
  have HW := Lib.hid hW
  have GG : Below w.heap.size w W := by rw [hW]; (repeat' (first | (with_reducible exact Below.refl _ _) | (with_reducible assumption) | (with_reducible refine Below.alloc ?_ ?_ _) | (with_reducible refine bdN ?_ _) | (with_reducible refine Below.drew ?_) | (with_reducible refine Below.setCell ?_ ?_ _) | go_size))
  replace a0 := cell_below GG a0
  replace a1 := cell_below GG a1
  rw [show ad.add (i + 1) = ⟨(ad.add i).block, (ad.add i).off + 1, none⟩ by rw [add_succ]; unfold Addr.add; split <;> simp_all; try omega] at a1
  have m1 : bits .and .u8 x 63 = x % 64 := and63_u8 x hx1 hx2
  have htk : (xs.drop i).take 2 = [b, x] := by rw [drop_cons hb, drop_cons hxx]; rfl
  have hsub : Row eU 1 W (some (ad.add i)) [b, x] := by
    have := (hx.below GG).sub i 2
    rwa [htk, Nat.mul_one] at this
  have hc64 := Lib.hid (show ∀ w' : World, (∀ p, (W.cell? p).isSome = true → w'.cell? p = W.cell? p) → ∀ cap, (convert 28 9 (.slice (some (ad.add i)) 2 cap)).run Try.prog w' = .ok (.string (strOfNums [b, x])) w' from fun w' hk cap => conv_row _ 2 cap [b, x] w' rfl (hsub.keeps hk) (by decide))
  have hsubB : Byt [b, x] := fun j y hj => hB (i + j) y (by have := hj; rw [← htk, List.getElem?_take] at this; split at this; rwa [List.getElem?_drop] at this; cases this)
  have i1 : (2 : Int) ≤ ((n - i : Nat) : Int) := by omega
  have i2 : (2 : Int) ≤ ((c - i : Nat) : Int) := by omega
  clear hbt hx hB hb hn hW GG hsub htk hxt hxx
  have q2 : isChr ((b - 192) * 64 + x % 64) = true := by simp [isChr, inB]; omega
  have HT := Lib.hid (show (!(strOfNums (enc ((b - 192) * 64 + x % 64))).toList == (strOfNums [b, x]).toList) = false → decR xs i = (0, ((b - 192) * 64 + x % 64), 2) from fun e => by rw [HD.out, if_pos (strNe_f (enc_byt (by omega) (by omega)) (fun j y hj => hsubB j y hj) e)])
  have HF := Lib.hid (show (!(strOfNums (enc ((b - 192) * 64 + x % 64))).toList == (strOfNums [b, x]).toList) = true → decR xs i = (5, 0, 0) from fun e => by rw [HD.out, if_neg (strNe_t e)])
  clear hsubB
  (change Calls _ _ _ _ (Fin R); go_enter Try.func101, Try.ntmps101)
  go_wp2_with (fail)
  rw [← HW.out]
  refine within_c _ _ _ _ q1 _ _ ?_
  go_wp2_with (fail)
  refine wp_loop_rounds 2 ?_
  rw [rounds_succ]
  go_wp2_with (fail)
  rw [rounds_succ]
  go_wp2_with (fail)
  have e0 := hc64.out W.drew (keeps_refl _)
  go_region_with (first | (go_at_call 107; (with_reducible refine isChar_c _ _ q2 _ _ ?_)) | (go_at_call 70; refine encoded_c ((b - 192) * 64 + x % 64) (by omega) (by omega) _ _ ?_; intro A' c' w1 ho1 hc1 hm1 hbe; have ee := conv_row A' _ c' _ w1 rfl ho1.rowOf (enc_pos ((b - 192) * 64 + x % 64)); have e2 := hc64.out _ (keeps_below (below_drew hbe)); have b2 := blk_keep b1 (by omega) (below_drew hbe); have f2 := frz_keep f1 (by omega) (below_drew hbe); have g2 := G0.trans ((below_drew hbe).mono G0.size); clear hbe ho1))
  all_goals clear e0
  all_goals go_wp2
  all_goals (refine bodyPost_ret (by simp [results, Try.results101, go_sem, b2]; try rfl) rfl ?_)
  all_goals (refine retV (H.out _ (by (repeat' (first | (with_reducible exact Below.refl _ _) | (with_reducible assumption) | (with_reducible refine Below.alloc ?_ ?_ _) | (with_reducible refine bdN ?_ _) | (with_reducible refine Below.drew ?_) | (with_reducible refine Below.setCell ?_ ?_ _) | go_size)))) ?_; first | rw [HT.out (by assumption)] | rw [HF.out (by assumption)])
end Go.Proofs.Ytcinaflmpdmdaaa.M
end
section
namespace Go.Proofs.Ytcinaflmpdmdaaa.M
open Go.RowKit
set_option maxRecDepth 20000 in
set_option maxHeartbeats 4000000 in
theorem DecodeAt_3 (A : Option Addr) (n c : Nat) (xs : List Int) (i : Nat) (w : World) (hn : xs.length = n) (hx : Row eU 1 w A xs) (hB : Byt xs) (hc : n ≤ c) (hm : n ≤ 1048576) (hi : i + 2 < n) (hlt : 224 ≤ bt xs i)
    (R : Ending → World → Prop) (h : ∀ w', Below w.heap.size w w' → R (.returned (.agg #[.int .i64 (decR xs i).1, .int .i64 (decR xs i).2.1, .int .i64 (decR xs i).2.2])) w') :
    Calls Try.prog 101 #[.slice A n c, .int .i64 i] w R := by
  have H := Lib.hid h
  clear h
  obtain ⟨b, hb⟩ := get_lt (xs := xs) (i := i) (by omega)
  obtain ⟨ad, rfl, a0⟩ := hx.eU hb
  obtain ⟨hb1, hb2⟩ := hB i b hb
  have hbt : bt xs i = b := by simp [bt, hb]
  obtain ⟨x, hxx⟩ := get_lt (xs := xs) (i := i + 1) (by omega)
  obtain ⟨ad', e', a1⟩ := hx.eU hxx
  obtain rfl := Option.some.inj e'
  clear e'
  obtain ⟨hx1, hx2⟩ := hB (i + 1) x hxx
  have hxt : bt xs (i + 1) = x := by simp [bt, hxx]
  obtain ⟨y, hyy⟩ := get_lt (xs := xs) (i := i + 2) (by omega)
  obtain ⟨ad', e', a2⟩ := hx.eU hyy
  obtain rfl := Option.some.inj e'
  clear e'
  obtain ⟨hy1, hy2⟩ := hB (i + 2) y hyy
  have hyt : bt xs (i + 2) = y := by simp [bt, hyy]
  rw [hbt] at hlt
  have HD := Lib.hid (decR_three hbt hxt hyt hlt hx1 hx2 hy1 hy2 (by omega))
  have q1 : inB i 0 ((n : Int) - 1) = true := by simp [inB]; omega
  obtain ⟨W, hW⟩ : ∃ W, W = w.alloc (Obj.cells #[.int .i64 0, .int .i64 0, .int .i64 0] 125) := ⟨_, rfl⟩
  obtain ⟨b1, f1, hz, G0⟩ := box1 _ _ _ W hW
  have HW := Lib.hid hW
  have GG : Below w.heap.size w W := by rw [hW]; (repeat' (first | (with_reducible exact Below.refl _ _) | (with_reducible assumption) | (with_reducible refine Below.alloc ?_ ?_ _) | (with_reducible refine bdN ?_ _) | (with_reducible refine Below.drew ?_) | (with_reducible refine Below.setCell ?_ ?_ _) | go_size))
  replace a0 := cell_below GG a0
  replace a1 := cell_below GG a1
  replace a2 := cell_below GG a2
  rw [show ad.add (i + 1) = ⟨(ad.add i).block, (ad.add i).off + 1, none⟩ by rw [add_succ]; unfold Addr.add; split <;> simp_all; try omega] at a1
  rw [show ad.add (i + 2) = ⟨(ad.add i).block, (ad.add i).off + 2, none⟩ by rw [add_succ]; unfold Addr.add; split <;> simp_all; try omega] at a2
  have m1 : bits .and .u8 x 63 = x % 64 := and63_u8 x hx1 hx2
  have m2 : bits .and .u8 y 63 = y % 64 := and63_u8 y hy1 hy2
  have htk : (xs.drop i).take 3 = [b, x, y] := by rw [drop_cons hb, drop_cons hxx, drop_cons hyy]; rfl
  have hsub : Row eU 1 W (some (ad.add i)) [b, x, y] := by
    have := (hx.below GG).sub i 3
    rwa [htk, Nat.mul_one] at this
  have hc64 := Lib.hid (show ∀ w' : World, (∀ p, (W.cell? p).isSome = true → w'.cell? p = W.cell? p) → ∀ cap, (convert 28 9 (.slice (some (ad.add i)) 3 cap)).run Try.prog w' = .ok (.string (strOfNums [b, x, y])) w' from fun w' hk cap => conv_row _ 3 cap [b, x, y] w' rfl (hsub.keeps hk) (by decide))
  have hsubB : Byt [b, x, y] := fun j y hj => hB (i + j) y (by have := hj; rw [← htk, List.getElem?_take] at this; split at this; rwa [List.getElem?_drop] at this; cases this)
  have i1 : (3 : Int) ≤ ((n - i : Nat) : Int) := by omega
  have i2 : (3 : Int) ≤ ((c - i : Nat) : Int) := by omega
  clear hbt hx hB hb hn hW GG hsub htk hxt hxx hyt hyy
  have HFC := Lib.hid (show isChr (((b - 224) * 64 + x % 64) * 64 + y % 64) = false → decR xs i = (5, 0, 0) from fun e => by rw [HD.out, if_neg (fun e2 => by rw [e] at e2; cases e2.1)])
  rcases q2 : isChr (((b - 224) * 64 + x % 64) * 64 + y % 64) with _ | _
  · (change Calls _ _ _ _ (Fin R); go_enter Try.func101, Try.ntmps101)
    go_wp2_with (fail)
    rw [← HW.out]
    refine within_c _ _ _ _ q1 _ _ ?_
    go_wp2_with (fail)
    refine wp_loop_rounds 3 ?_
    rw [rounds_succ]
    go_wp2_with (fail)
    rw [rounds_succ]
    go_wp2_with (fail)
    rw [rounds_succ]
    go_wp2_with (fail)
    go_quiet ((go_at_call 107; (with_reducible exact Calls.quiet_of_same (isChar_q _ _ q2 _))))
    go_wp2
    (refine bodyPost_ret (by simp [results, Try.results101, go_sem, b1]; try rfl) rfl ?_)
    refine retV (H.out _ (by (repeat' (first | (with_reducible exact Below.refl _ _) | (with_reducible assumption) | (with_reducible refine Below.alloc ?_ ?_ _) | (with_reducible refine bdN ?_ _) | (with_reducible refine Below.drew ?_) | (with_reducible refine Below.setCell ?_ ?_ _) | go_size)))) ?_
    rw [HFC.out q2]
  have hF : ((b - 224) * 64 + x % 64) * 64 + y % 64 ≤ 65535 := by
    have := q2
    unfold isChr inB at this
    simp only [Bool.and_eq_true, decide_eq_true_eq] at this
    exact this.1.2
  have HFF := Lib.hid hF
  have HT := Lib.hid (show (!(strOfNums (enc (((b - 224) * 64 + x % 64) * 64 + y % 64))).toList == (strOfNums [b, x, y]).toList) = false → decR xs i = (0, (((b - 224) * 64 + x % 64) * 64 + y % 64), 3) from fun e => by rw [HD.out, if_pos ⟨q2, (strNe_f (enc_byt (by omega) HFF.out) (fun j y hj => hsubB j y hj) e)⟩])
  have HF := Lib.hid (show (!(strOfNums (enc (((b - 224) * 64 + x % 64) * 64 + y % 64))).toList == (strOfNums [b, x, y]).toList) = true → decR xs i = (5, 0, 0) from fun e => by rw [HD.out, if_neg (fun e2 => strNe_t e e2.2)])
  clear hsubB
  (change Calls _ _ _ _ (Fin R); go_enter Try.func101, Try.ntmps101)
  go_wp2_with (fail)
  rw [← HW.out]
  refine within_c _ _ _ _ q1 _ _ ?_
  go_wp2_with (fail)
  refine wp_loop_rounds 3 ?_
  rw [rounds_succ]
  go_wp2_with (fail)
  rw [rounds_succ]
  go_wp2_with (fail)
  rw [rounds_succ]
  go_wp2_with (fail)
  have e0 := hc64.out W.drew (keeps_refl _)
  go_region_with (first | (go_at_call 107; (with_reducible refine isChar_c _ _ q2 _ _ ?_)) | (go_at_call 70; refine encoded_c (((b - 224) * 64 + x % 64) * 64 + y % 64) (by omega) HFF.out _ _ ?_; intro A' c' w1 ho1 hc1 hm1 hbe; have ee := conv_row A' _ c' _ w1 rfl ho1.rowOf (enc_pos (((b - 224) * 64 + x % 64) * 64 + y % 64)); have e2 := hc64.out _ (keeps_below (below_drew hbe)); have b2 := blk_keep b1 (by omega) (below_drew hbe); have f2 := frz_keep f1 (by omega) (below_drew hbe); have g2 := G0.trans ((below_drew hbe).mono G0.size); clear hbe ho1))
  all_goals clear e0
  all_goals go_wp2
  all_goals (refine bodyPost_ret (by simp [results, Try.results101, go_sem, b2]; try rfl) rfl ?_)
  all_goals (refine retV (H.out _ (by (repeat' (first | (with_reducible exact Below.refl _ _) | (with_reducible assumption) | (with_reducible refine Below.alloc ?_ ?_ _) | (with_reducible refine bdN ?_ _) | (with_reducible refine Below.drew ?_) | (with_reducible refine Below.setCell ?_ ?_ _) | go_size)))) ?_; first | rw [HT.out (by assumption)] | rw [HF.out (by assumption)])
end Go.Proofs.Ytcinaflmpdmdaaa.M
end
section
namespace Go.Proofs.Ytcinaflmpdmdaaa.M
open Go.RowKit
set_option maxHeartbeats 1000000 in
theorem DecodeAt_short (A : Option Addr) (n c : Nat) (xs : List Int) (i : Nat) (w : World) (hn : xs.length = n) (hx : Row eU 1 w A xs) (hB : Byt xs) (hc : n ≤ c) (hm : n ≤ 1048576) (hi : i < n)
    (hs : (192 ≤ bt xs i ∧ bt xs i < 224 ∧ n ≤ i + 1) ∨ (224 ≤ bt xs i ∧ n ≤ i + 2))
    (R : Ending → World → Prop) (h : ∀ w', Below w.heap.size w w' → R (.returned (.agg #[.int .i64 (decR xs i).1, .int .i64 (decR xs i).2.1, .int .i64 (decR xs i).2.2])) w') :
    Calls Try.prog 101 #[.slice A n c, .int .i64 i] w R := by
  have hd : decR xs i = (5, 0, 0) := by
    rcases hs with ⟨h1, h2, h3⟩ | ⟨h1, h3⟩
    · exact decR_two_short rfl h1 h2 (by omega)
    · exact decR_three_short rfl h1 (by omega)
  rw [hd] at h
  have H := Lib.hid h
  clear h hd
  obtain ⟨b, hb⟩ := get_lt (xs := xs) (i := i) (by omega)
  obtain ⟨ad, rfl, a0⟩ := hx.eU hb
  obtain ⟨hb1, hb2⟩ := hB i b hb
  have hbt : bt xs i = b := by simp [bt, hb]
  rw [hbt] at hs
  have q1 : inB i 0 ((n : Int) - 1) = true := by simp [inB]; omega
  obtain ⟨W, hW⟩ : ∃ W, W = w.alloc (Obj.cells #[.int .i64 0, .int .i64 0, .int .i64 0] 125) := ⟨_, rfl⟩
  obtain ⟨b1, f1, hz, G0⟩ := box1 _ _ _ W hW
  have HW := Lib.hid hW
  have GG : Below w.heap.size w W := by rw [hW]; (repeat' (first | (with_reducible exact Below.refl _ _) | (with_reducible assumption) | (with_reducible refine Below.alloc ?_ ?_ _) | (with_reducible refine bdN ?_ _) | (with_reducible refine Below.drew ?_) | (with_reducible refine Below.setCell ?_ ?_ _) | go_size))
  replace a0 := cell_below GG a0
  clear hbt hx hB hb hn hW GG
  have i0 : 1 ≤ n - i := by omega
  rcases hs with ⟨h1, h2, h3⟩ | ⟨h1, h3⟩
  · have i1 : n - i = 1 := by omega
    (change Calls _ _ _ _ (Fin R); go_enter Try.func101, Try.ntmps101)
    go_wp2_with (fail)
    rw [← HW.out]
    refine within_c _ _ _ _ q1 _ _ ?_
    go_wp2_with (fail)
    (refine bodyPost_ret (by simp [results, Try.results101, go_sem, b1]; try rfl) rfl ?_)
    exact H.out _ (by (repeat' (first | (with_reducible exact Below.refl _ _) | (with_reducible assumption) | (with_reducible refine Below.alloc ?_ ?_ _) | (with_reducible refine bdN ?_ _) | (with_reducible refine Below.drew ?_) | (with_reducible refine Below.setCell ?_ ?_ _) | go_size)))
  · have i1 : n - i ≤ 2 := by omega
    (change Calls _ _ _ _ (Fin R); go_enter Try.func101, Try.ntmps101)
    go_wp2_with (fail)
    rw [← HW.out]
    refine within_c _ _ _ _ q1 _ _ ?_
    go_wp2_with (fail)
    (refine bodyPost_ret (by simp [results, Try.results101, go_sem, b1]; try rfl) rfl ?_)
    exact H.out _ (by (repeat' (first | (with_reducible exact Below.refl _ _) | (with_reducible assumption) | (with_reducible refine Below.alloc ?_ ?_ _) | (with_reducible refine bdN ?_ _) | (with_reducible refine Below.drew ?_) | (with_reducible refine Below.setCell ?_ ?_ _) | go_size)))
theorem DecodeAt_c (A : Option Addr) (n c : Nat) (xs : List Int) (i : Nat) (w : World) (hn : xs.length = n) (hx : Row eU 1 w A xs) (hB : Byt xs) (hc : n ≤ c) (hm : n ≤ 1048576) (hi : i < n)
    (R : Ending → World → Prop) (h : ∀ w', Below w.heap.size w w' → R (.returned (.agg #[.int .i64 (decR xs i).1, .int .i64 (decR xs i).2.1, .int .i64 (decR xs i).2.2])) w') :
    Calls Try.prog 101 #[.slice A n c, .int .i64 i] w R := by
  by_cases h1 : bt xs i < 192
  · exact DecodeAt_1 A n c xs i w hn hx hB hc hm hi h1 R h
  by_cases h2 : bt xs i < 224
  · by_cases h3 : i + 1 < n
    · exact DecodeAt_2 A n c xs i w hn hx hB hc hm h3 h2 (by omega) R h
    · exact DecodeAt_short A n c xs i w hn hx hB hc hm hi (.inl ⟨by omega, h2, by omega⟩) R h
  · by_cases h3 : i + 2 < n
    · exact DecodeAt_3 A n c xs i w hn hx hB hc hm h3 (by omega) R h
    · exact DecodeAt_short A n c xs i w hn hx hB hc hm hi (.inr ⟨by omega, by omega⟩) R h
end Go.Proofs.Ytcinaflmpdmdaaa.M
end
section
namespace Go.Proofs.Ytcinaflmpdmdaaa.M
open Go.RowKit
set_option maxRecDepth 20000 in
set_option maxHeartbeats 4000000 in
theorem cells_c (A : Option Addr) (n c : Nat) (xs : List Int) (w : World) (hn : xs.length = n) (hx : Row eU 1 w A xs) (hB : Byt xs) (hc : n ≤ c) (hm : n ≤ 1048576)
    (R : Ending → World → Prop) (h : ∀ A' c' w', Own eCel 3 46 w' w.heap.size (.slice A' (cellsOf xs).length c') (cellsOf xs) → (cellsOf xs).length ≤ c' → c' ≤ maxLen → Below w.heap.size w w' → R (.returned (.slice A' (cellsOf xs).length c')) w') :
    Calls Try.prog 59 #[.slice A n c] w R := by
  have H := Lib.hid h
  have HX := Lib.hid hx
  have HB := Lib.hid hB
  have HN := Lib.hid hn
  clear h hx hB hn
  (change Calls _ _ _ _ (Fin R); go_enter Try.func59, Try.ntmps59)
  go_wp2_with (fail)
  go_loopg [3, 4] n (fun gk v3 v4 wr => ∃ (p m d : Nat) (B : Option Addr) (out : List Cel), gk = n - p ∧ p ≤ n ∧ v3 = .slice B m d ∧ v4 = .int .i64 p ∧ out.length = m ∧ m ≤ 4 * p ∧ m ≤ d ∧ d ≤ maxLen ∧ Own eCel 3 46 wr w.heap.size (.slice B m d) out ∧ Hid (cellsOf xs = cellsR xs p out) ∧ Below w.heap.size w wr)
  case atStart => exact ⟨0, 0, 0, some ⟨w.heap.size, 0, none⟩, [], by omega, by omega, rfl, rfl, rfl, by omega, Nat.le_refl _, by unfold maxLen; omega, Own.lit w _ [] 0 (Nat.le_refl _) rfl (by unfold maxLen; omega) ⟨rfl, fun i x hx => by simp at hx⟩, rfl, by (repeat' (first | (with_reducible exact Below.refl _ _) | (with_reducible assumption) | (with_reducible refine Below.alloc ?_ ?_ _) | (with_reducible refine bdN ?_ _) | (with_reducible refine Below.drew ?_) | (with_reducible refine Below.setCell ?_ ?_ _) | go_size))⟩
  case round =>
    obtain ⟨p, m, d, B, out, rfl, hp, rfl, rfl, hlen, hm4, hd1, hd2, ho, HE, hG⟩ := hrel
    by_cases hlt : p < n
    · obtain ⟨L, hLe⟩ : ∃ L, (shownL xs p m).1 = L := ⟨_, rfl⟩
      obtain ⟨q, hqe⟩ : ∃ q : Nat, (shownL xs p m).2 = (q : Int) := ⟨(shownL xs p m).2.toNat, by have := shown_n (xs := xs) (i := p) (by rw [HN.out]; exact hlt) m; omega⟩
      obtain ⟨hq1, hq2, hq3, hq4⟩ := shown_n (xs := xs) (i := p) (by rw [HN.out]; exact hlt) m
      rw [hqe] at hq1 hq2 hq3
      rw [HN.out, Int.toNat_natCast] at hq3
      rw [hLe] at hq4
      obtain ⟨k, hk⟩ : ∃ k, L.length = k := ⟨_, rfl⟩
      rw [hk] at hq4
      have HK := Lib.hid hk
      have HS := Lib.hid (show shownL xs p m = (L, (q : Int)) from Prod.ext hLe hqe)
      have HLe := Lib.hid hlen
      have HO := Lib.hid ho
      obtain ⟨b, hb⟩ := get_lt (xs := xs) (i := p) (by rw [HN.out]; exact hlt)
      obtain ⟨ad, rfl, a0⟩ := HX.out.eU hb
      obtain ⟨hb1, hb2⟩ := HB.out p b hb
      have HBT := Lib.hid (show bt xs p = b by simp [bt, hb])
      replace a0 := cell_below hG a0
      obtain ⟨W, hW⟩ : ∃ W, W = wr.alloc (Obj.cells #[] 2) := ⟨_, rfl⟩
      obtain ⟨bz, hbz⟩ : ∃ bz, bz = wr.heap.size := ⟨_, rfl⟩
      have hbw : w.heap.size ≤ bz := by rw [hbz]; exact hG.size
      have GW : Below wr.heap.size wr W := by rw [hW]; (repeat' (first | (with_reducible exact Below.refl _ _) | (with_reducible assumption) | (with_reducible refine Below.alloc ?_ ?_ _) | (with_reducible refine bdN ?_ _) | (with_reducible refine Below.drew ?_) | (with_reducible refine Below.setCell ?_ ?_ _) | go_size))
      have HOW := Lib.hid (show Own eI 1 2 W bz (.slice (some ⟨wr.heap.size, 0, none⟩) 0 0) [] by rw [hW, hbz]; exact Own.lit wr _ [] 0 (Nat.le_refl _) rfl (by unfold maxLen; omega) ⟨rfl, fun i x hx => by simp at hx⟩)
      have HOC := Lib.hid (HO.out.below GW)
      have hGW := hG.trans (GW.mono hG.size)
      have HW := Lib.hid hW
      obtain ⟨cd, chh, us, hD⟩ : ∃ cd chh us, decR xs p = (cd, chh, us) := ⟨_, _, _, rfl⟩
      have HD := Lib.hid hD
      clear hLe hqe ho hlen hk hb hW hD
      go_wp2_with (fail)
      rw [← HW.out]
      refine DecodeAt_c (some ad) n c xs p _ HN.out (HX.out.below hGW) HB.out hc hm hlt _ ?_
      intro w1 hb1
      rw [HD.out]
      have hG1 := hGW.trans (hb1.mono hGW.size)
      obtain ⟨W1, hW1⟩ : ∃ W1, W1 = w1.alloc (Obj.cells #[.int .i64 cd, .int .i64 chh, .int .i64 us] 125) := ⟨_, rfl⟩
      obtain ⟨c1, f1, hz1, GW1⟩ := box1 _ _ _ W1 hW1
      have hG2 := hG1.trans (GW1.mono hG1.size)
      have HO2 := Lib.hid ((HOC.out.below hb1).below GW1)
      have HOW2 := Lib.hid ((HOW.out.below hb1).below GW1)
      have HW1 := Lib.hid hW1
      have hzz : bz ≤ W1.heap.size := by rw [hbz]; have := GW.size; have := hb1.size; omega
      clear hW1 hb1 f1 hbz
      by_cases h9 : b = 9
      · subst h9
        have hs : shownL xs p m = (List.replicate (4 - m % 4) 32, 1) := by unfold shownL; rw [HBT.out, if_pos rfl]
        rw [HS.out] at hs
        obtain ⟨hL', hq'⟩ := Prod.mk.inj hs
        have hq1' : q = 1 := by omega
        have HS1 := Lib.hid (show shownL xs p m = (L, 1) by rw [HS.out, hq1']; rfl)
        have hk' : k = 4 - m % 4 := by rw [← HK.out, hL', List.length_replicate]
        have HL' := Lib.hid hL'
        have HK' := Lib.hid hk'
        clear hs hL' hq'
        subst hq1'
        have hk1 : 1 ≤ k := by omega
        clear hk' HS
        have HS := HS1
        clear HS1
        go_wp2_with (fail)
        go_loopg [7] k (fun gk v7 ws => ∃ (j d7 : Nat) (B7 : Option Addr), gk = k - j ∧ j ≤ k ∧ v7 = .slice B7 j d7 ∧ j ≤ d7 ∧ d7 ≤ maxLen ∧ Own eI 1 2 ws bz (.slice B7 j d7) (List.replicate j 32) ∧ Own eCel 3 46 ws w.heap.size (.slice B m d) out ∧ bz ≤ ws.heap.size ∧ Below w.heap.size w ws)
        case atStart => rw [← HW1.out]; exact ⟨0, 0, some ⟨wr.heap.size, 0, none⟩, by omega, by omega, rfl, by omega, by unfold maxLen; omega, HOW2.out, HO2.out, hzz, hG2⟩
        case round =>
          obtain ⟨j, d7, B7, rfl, hj, rfl, hd7, hd72, hoI, hoC, hzj, hG1⟩ := hrel
          have HOI := Lib.hid hoI
          have HOC' := Lib.hid hoC
          clear hoI hoC
          by_cases hjk : j < k
          · rcases Nat.eq_zero_or_pos j with rfl | hjp
            · go_wp2_with (first | (at_builtin; refine wp_append1 eI 1 _ bz rfl _ _ 75 2 2 rfl Try.underlying75 (.int .i64 0) 8 info_i64 0 rfl eI_len (by decide) eI_one _ (List.replicate 0 32) rfl HOI.out 32 _ rfl rfl (by decide) (by decide) hzj ?_; intro v' w' ho' hg'))
              go_roundg (k - (0 + 1))
              case measure => omega
              case rel =>
                rw [show List.replicate 0 (32 : Int) ++ [32] = List.replicate (0 + 1) 32 from rfl] at ho'
                obtain ⟨B', d', rfl, h1, h2, _⟩ := ho'.row
                rw [List.length_replicate] at h1 ho' ⊢
                exact ⟨0 + 1, d', B', rfl, by omega, rfl, h1, h2, ho', HOC'.out.grown hg' (HOC'.out.apart_ty HOI.out (by decide)), Nat.le_trans hzj hg'.size, below_own hG1 hg' (fun g e => Nat.le_trans hbw (HOI.out.lt e).1) hG1.size⟩
            · have hgd : ¬ ((m : Int) + (j : Int)) % 4 = 0 := by have := HK'.out; omega
              have hgd2 : ((j : Int) == 0) = false := by simp; omega
              have hgd3 : (((m : Int) + (j : Int)) % 4 != 0) = true := by simp; omega
              go_wp2_with (first | (at_builtin; (refine wp_append1 eI 1 _ bz rfl _ _ 75 2 2 rfl Try.underlying75 (.int .i64 0) 8 info_i64 0 rfl eI_len (by decide) eI_one _ (List.replicate j 32) rfl HOI.out 32 _ rfl rfl (by simp; omega) (by simp; unfold maxLen; omega) hzj ?_); intro v' w' ho' hg'))
              go_roundg (k - (j + 1))
              case measure => omega
              case rel =>
                rw [← List.replicate_succ'] at ho'
                obtain ⟨B', d', rfl, h1, h2, _⟩ := ho'.row
                rw [List.length_replicate] at h1 ho' ⊢
                exact ⟨j + 1, d', B', rfl, by omega, rfl, h1, h2, ho', HOC'.out.grown hg' (HOC'.out.apart_ty HOI.out (by decide)), Nat.le_trans hzj hg'.size, below_own hG1 hg' (fun g e => Nat.le_trans hbw (HOI.out.lt e).1) hG1.size⟩
          · have hjk2 : j = k := by omega
            subst hjk2
            have hgd : ((m : Int) + (j : Int)) % 4 = 0 := by have := HK'.out; omega
            have hgd2 : ((j : Int) == 0) = false := by simp; omega
            have hgd3 : (((m : Int) + (j : Int)) % 4 != 0) = false := by simp; omega
            have HO1 := Lib.hid (show Own eI 1 2 wr bz (.slice B7 j d7) L by rw [HL'.out, ← HK'.out]; exact HOI.out)
            have HO2 := HOC'
            go_wp2_with (fail)
            clear hgd hgd2 hgd3
            go_loopg [3, 76] j (fun gk v3 v7 wr => ∃ (jj m' d' : Nat) (B' : Option Addr) (out' : List Cel), gk = j - jj ∧ jj ≤ j ∧ v3 = .slice B' m' d' ∧ v7 = .int .i64 jj ∧ out'.length = m' ∧ m' = m + jj ∧ m' ≤ d' ∧ d' ≤ maxLen ∧ Own eCel 3 46 wr w.heap.size (.slice B' m' d') out' ∧ Own eI 1 2 wr 0 (.slice B7 j d7) L ∧ Hid (out' = out ++ (L.take jj).map fun c => (⟨c, p, 1⟩ : Cel)) ∧ Below w.heap.size w wr)
            case atStart => exact ⟨0, m, d, B, out, rfl, by omega, rfl, rfl, HLe.out, rfl, hd1, hd2, HO2.out, HO1.out.lower (Nat.zero_le _), by simp [Hid], hG1⟩
            case round =>
              obtain ⟨jj, m', d', B', out', rfl, hj, rfl, rfl, hlen', hmj, hd1', hd2', ho', hoL, HF, hG'⟩ := hrel
              by_cases hjk : jj < j
              · obtain ⟨x, hx⟩ := get_lt (xs := L) (i := jj) (by rw [HK.out]; exact hjk)
                obtain ⟨ad, rfl, a0⟩ := hoL.rowOf.eI hx
                have HO' := Lib.hid ho'
                have HOL := Lib.hid hoL
                have HLen := Lib.hid hlen'
                have HX' := Lib.hid hx
                have hbd : (out'.length + 1) * 24 ≤ 140737488355328 := by rw [hlen']; omega
                have hbd2 : out'.length + 1 ≤ maxLen := by rw [hlen']; unfold maxLen; omega
                have HBD := Lib.hid hbd
                have HBD2 := Lib.hid hbd2
                clear ho' hoL hlen' hx hbd hbd2
                go_wp2_with (first | (at_builtin; refine wp_append1 eCel 3 _ w.heap.size rfl _ _ 38 46 46 rfl Try.underlying38 (.agg #[.int .i64 0, .int .i64 0, .int .i64 0]) 24 info_cell ⟨0, 0, 0⟩ rfl eCel_len (by decide) eCel_one _ out' rfl HO'.out ⟨x, p, 1⟩ _ rfl rfl HBD.out HBD2.out hG'.size ?_; intro v' w' ho' hg'))
                go_roundg (j - (jj + 1))
                case measure => omega
                case rel =>
                  obtain ⟨B2, d2, rfl, h1, h2, _⟩ := ho'.row
                  have hll : (out' ++ [(⟨x, p, 1⟩ : Cel)]).length = m' + 1 := by rw [List.length_append, HLen.out]; rfl
                  rw [hll] at h1 ho' ⊢
                  refine ⟨jj + 1, m' + 1, d2, B2, _, rfl, by omega, rfl, by go_num, hll, by omega, h1, h2, ho', HOL.out.grown hg' (HOL.out.apart_ty HO'.out (by decide)), ?_, below_own hG' hg' (fun g e => (HO'.out.lt e).1) hG'.size⟩
                  simp only [Hid]
                  rw [HF.out, List.take_add_one, HX'.out]
                  simp
              · have hjk2 : jj = j := by omega
                subst hjk2
                have HO' := Lib.hid ho'
                have HLen := Lib.hid hlen'
                clear ho' hoL hlen'
                go_wp2_with (fail)
                go_roundg (n - (p + 1))
                case measure => omega
                case rel =>
                  refine ⟨p + 1, m', d', B', out', rfl, hq3, rfl, by go_num, HLen.out, by omega, hd1', hd2', HO'.out, ?_, hG'⟩
                  simp only [Hid]
                  rw [HE.out, cellsR_step (by rw [HN.out]; exact hlt), HLe.out, HS.out]
                  rw [show (1 : Int).toNat = 1 from by first | rfl | exact Int.toNat_natCast _]
                  congr 1
                  rw [HF.out, cellsAt, HS.out, List.take_of_length_le (by rw [HK.out]; exact Nat.le_refl _)]
      have hb9 : (b == 9) = false := by simp [h9]
      by_cases h32 : b < 32 ∨ b = 127
      · have hs : shownL xs p m = ([94, bits .xor .u8 b 64], 1) := by unfold shownL; rw [HBT.out, if_neg h9, if_pos h32]
        rw [HS.out] at hs
        obtain ⟨hL', hq'⟩ := Prod.mk.inj hs
        have hq1' : q = 1 := by omega
        have HS1 := Lib.hid (show shownL xs p m = (L, 1) by rw [HS.out, hq1']; rfl)
        subst hq1'
        clear HS
        have HS := HS1
        have hk' : k = 2 := by rw [← HK.out, hL']; rfl
        subst hk'
        have HL' := Lib.hid hL'
        obtain ⟨x0, x1⟩ := xor_in b (by omega) (by omega)
        obtain ⟨W2, hW2⟩ : ∃ W2, W2 = W1.alloc (Obj.cells #[.int .i64 94, .int .i64 (bits .xor .u8 b 64)] 2) := ⟨_, rfl⟩
        have GW2 : Below W1.heap.size W1 W2 := by rw [hW2]; (repeat' (first | (with_reducible exact Below.refl _ _) | (with_reducible assumption) | (with_reducible refine Below.alloc ?_ ?_ _) | (with_reducible refine bdN ?_ _) | (with_reducible refine Below.drew ?_) | (with_reducible refine Below.setCell ?_ ?_ _) | go_size))
        obtain ⟨A1, hA1⟩ : ∃ A1 : Option Addr, A1 = some ⟨w1.heap.size + 1, 0, none⟩ := ⟨_, rfl⟩
        have HA1 := Lib.hid hA1
        have HO1 := Lib.hid (show Own eI 1 2 W2 W1.heap.size (.slice A1 2 2) L by rw [hW2, hL', hA1, ← hz1]; exact Own.lit W1 _ [94, bits .xor .u8 b 64] 2 (Nat.le_refl _) rfl (by unfold maxLen; omega) (Enc.map _ _))
        have HO2' := Lib.hid (HO2.out.below GW2)
        clear HO2
        have HO2 := HO2'
        have hG1 := hG2.trans (GW2.mono hG2.size)
        have HW2 := Lib.hid hW2
        clear hs hL' hq' HS1 HO2' hW2 hA1
        rcases h32 with hlt32 | rfl
        all_goals
          go_wp2_with (fail)
          rw [← HW1.out, ← HW2.out]
          rw [← HA1.out]
          go_loopg [3, 76] 2 (fun gk v3 v7 wr => ∃ (jj m' d' : Nat) (B' : Option Addr) (out' : List Cel), gk = 2 - jj ∧ jj ≤ 2 ∧ v3 = .slice B' m' d' ∧ v7 = .int .i64 jj ∧ out'.length = m' ∧ m' = m + jj ∧ m' ≤ d' ∧ d' ≤ maxLen ∧ Own eCel 3 46 wr w.heap.size (.slice B' m' d') out' ∧ Own eI 1 2 wr 0 (.slice A1 2 2) L ∧ Hid (out' = out ++ (L.take jj).map fun c => (⟨c, p, (1 : Int)⟩ : Cel)) ∧ Below w.heap.size w wr)
          case atStart => exact ⟨0, m, d, B, out, rfl, by omega, rfl, rfl, HLe.out, rfl, hd1, hd2, HO2.out, HO1.out.lower (Nat.zero_le _), by simp [Hid], hG1⟩
          case round =>
            obtain ⟨jj, m', d', B', out', rfl, hj, rfl, rfl, hlen', hmj, hd1', hd2', ho', hoL, HF, hG'⟩ := hrel
            by_cases hjk : jj < 2
            · obtain ⟨x, hx⟩ := get_lt (xs := L) (i := jj) (by rw [HK.out]; exact hjk)
              obtain ⟨ad, rfl, a0⟩ := hoL.rowOf.eI hx
              have HO' := Lib.hid ho'
              have HOL := Lib.hid hoL
              have HLen := Lib.hid hlen'
              have HX' := Lib.hid hx
              have hbd : (out'.length + 1) * 24 ≤ 140737488355328 := by rw [hlen']; omega
              have hbd2 : out'.length + 1 ≤ maxLen := by rw [hlen']; unfold maxLen; omega
              have HBD := Lib.hid hbd
              have HBD2 := Lib.hid hbd2
              clear ho' hoL hlen' hx hbd hbd2
              go_wp2_with (first | (at_builtin; refine wp_append1 eCel 3 _ w.heap.size rfl _ _ 38 46 46 rfl Try.underlying38 (.agg #[.int .i64 0, .int .i64 0, .int .i64 0]) 24 info_cell ⟨0, 0, 0⟩ rfl eCel_len (by decide) eCel_one _ out' rfl HO'.out ⟨x, p, (1 : Int)⟩ _ rfl rfl HBD.out HBD2.out hG'.size ?_; intro v' w' ho' hg'))
              go_roundg (2 - (jj + 1))
              case measure => omega
              case rel =>
                obtain ⟨B2, d2, rfl, h1, h2, _⟩ := ho'.row
                have hll : (out' ++ [(⟨x, p, (1 : Int)⟩ : Cel)]).length = m' + 1 := by rw [List.length_append, HLen.out]; rfl
                rw [hll] at h1 ho' ⊢
                refine ⟨jj + 1, m' + 1, d2, B2, _, rfl, by omega, rfl, by go_num, hll, by omega, h1, h2, ho', HOL.out.grown hg' (HOL.out.apart_ty HO'.out (by decide)), ?_, below_own hG' hg' (fun g e => (HO'.out.lt e).1) hG'.size⟩
                simp only [Hid]
                rw [HF.out, List.take_add_one, HX'.out]
                simp
            · have hjk2 : jj = 2 := by omega
              subst hjk2
              have HO' := Lib.hid ho'
              have HLen := Lib.hid hlen'
              clear ho' hoL hlen'
              go_wp2_with (fail)
              go_roundg (n - (p + 1))
              case measure => omega
              case rel =>
                refine ⟨p + 1, m', d', B', out', rfl, hq3, rfl, by go_num, HLen.out, by omega, hd1', hd2', HO'.out, ?_, hG'⟩
                simp only [Hid]
                rw [HE.out, cellsR_step (by rw [HN.out]; exact hlt), HLe.out, HS.out]
                rw [show ((1 : Int)).toNat = 1 from by first | rfl | exact Int.toNat_natCast _]
                congr 1
                rw [HF.out, cellsAt, HS.out, List.take_of_length_le (by rw [HK.out]; exact Nat.le_refl _)]
      have hb32 : ¬ b < 32 := fun e => h32 (.inl e)
      have hb127 : (b == 127) = false := by have := fun e => h32 (.inr e); simp; exact this
      have h32' : ¬ (b < 32 ∨ b = 127) := h32
      clear h32
      by_cases hu : (dec xs p).2 = 0
      · have hs : shownL xs p m = ([60, hexF (b / 16), hexF (b % 16), 62], 1) := by unfold shownL; rw [HBT.out, if_neg h9, if_neg h32', if_pos hu]
        have hdc : cd = 5 := by have := HD.out; unfold decR at this; rw [if_pos hu] at this; cases this; rfl
        subst hdc
        rw [HS.out] at hs
        obtain ⟨hL', hq'⟩ := Prod.mk.inj hs
        have hq1' : q = 1 := by omega
        have HS1 := Lib.hid (show shownL xs p m = (L, 1) by rw [HS.out, hq1']; rfl)
        subst hq1'
        clear HS
        have HS := HS1
        have hk' : k = 4 := by rw [← HK.out, hL']; rfl
        subst hk'
        have m15 : bits .and .u8 b 15 = b % 16 := and15_u8 b hb1 hb2
        have i1 : (0 : Int) ≤ b / 16 := by omega
        have i2 : b / 16 < 16 := by omega
        have i3 : (0 : Int) ≤ b % 16 := by omega
        have i4 : b % 16 < 16 := by omega
        obtain ⟨A1, hA1⟩ : ∃ A1 : Option Addr, A1 = some ⟨w1.heap.size + 1, 0, none⟩ := ⟨_, rfl⟩
        have HA1 := Lib.hid hA1
        obtain ⟨W2, hW2⟩ : ∃ W2, W2 = (W1.alloc (Obj.cells #[.int .i64 60, .int .i64 (hexF (b / 16)), .int .i64 (hexF (b % 16)), .int .i64 62] 2)).drew := ⟨_, rfl⟩
        have GW2 : Below W1.heap.size W1 W2 := by rw [hW2]; (repeat' (first | (with_reducible exact Below.refl _ _) | (with_reducible assumption) | (with_reducible refine Below.alloc ?_ ?_ _) | (with_reducible refine bdN ?_ _) | (with_reducible refine Below.drew ?_) | (with_reducible refine Below.setCell ?_ ?_ _) | go_size))
        have HO1 := Lib.hid (show Own eI 1 2 W2 W1.heap.size (.slice A1 4 4) L by rw [hW2, hL', hA1, ← hz1]; exact (Own.lit W1 _ [60, hexF (b / 16), hexF (b % 16), 62] 4 (Nat.le_refl _) rfl (by unfold maxLen; omega) (Enc.map _ _)).drew)
        have HO2' := Lib.hid (HO2.out.below GW2)
        clear HO2
        have HO2 := HO2'
        have hG1 := hG2.trans (GW2.mono hG2.size)
        have HW2 := Lib.hid hW2
        have e1 := hex_at (b / 16) i1 i2 (show (b / 16).toNat < 16 by omega)
        have e2 := hex_at (b % 16) i3 i4 (show (b % 16).toNat < 16 by omega)
        unfold hexS at e1 e2
        have E1 := Lib.hid e1
        have E2 := Lib.hid e2
        clear hs hL' hq' h32' hu HS1 hW2 hA1 HO2' e1 e2
        go_wp2_with (fail)
        rw [← HW1.out]
        go_region
        rw [E1.out, E2.out, ← HW2.out, ← HA1.out]
        go_wp2_with (fail)
        go_loopg [3, 76] 4 (fun gk v3 v7 wr => ∃ (jj m' d' : Nat) (B' : Option Addr) (out' : List Cel), gk = 4 - jj ∧ jj ≤ 4 ∧ v3 = .slice B' m' d' ∧ v7 = .int .i64 jj ∧ out'.length = m' ∧ m' = m + jj ∧ m' ≤ d' ∧ d' ≤ maxLen ∧ Own eCel 3 46 wr w.heap.size (.slice B' m' d') out' ∧ Own eI 1 2 wr 0 (.slice A1 4 4) L ∧ Hid (out' = out ++ (L.take jj).map fun c => (⟨c, p, (1 : Int)⟩ : Cel)) ∧ Below w.heap.size w wr)
        case atStart => exact ⟨0, m, d, B, out, rfl, by omega, rfl, rfl, HLe.out, rfl, hd1, hd2, HO2.out, HO1.out.lower (Nat.zero_le _), by simp [Hid], hG1⟩
        case round =>
          obtain ⟨jj, m', d', B', out', rfl, hj, rfl, rfl, hlen', hmj, hd1', hd2', ho', hoL, HF, hG'⟩ := hrel
          by_cases hjk : jj < 4
          · obtain ⟨x, hx⟩ := get_lt (xs := L) (i := jj) (by rw [HK.out]; exact hjk)
            obtain ⟨ad, rfl, a0⟩ := hoL.rowOf.eI hx
            have HO' := Lib.hid ho'
            have HOL := Lib.hid hoL
            have HLen := Lib.hid hlen'
            have HX' := Lib.hid hx
            have hbd : (out'.length + 1) * 24 ≤ 140737488355328 := by rw [hlen']; omega
            have hbd2 : out'.length + 1 ≤ maxLen := by rw [hlen']; unfold maxLen; omega
            have HBD := Lib.hid hbd
            have HBD2 := Lib.hid hbd2
            clear ho' hoL hlen' hx hbd hbd2
            go_wp2_with (first | (at_builtin; refine wp_append1 eCel 3 _ w.heap.size rfl _ _ 38 46 46 rfl Try.underlying38 (.agg #[.int .i64 0, .int .i64 0, .int .i64 0]) 24 info_cell ⟨0, 0, 0⟩ rfl eCel_len (by decide) eCel_one _ out' rfl HO'.out ⟨x, p, (1 : Int)⟩ _ rfl rfl HBD.out HBD2.out hG'.size ?_; intro v' w' ho' hg'))
            go_roundg (4 - (jj + 1))
            case measure => omega
            case rel =>
              obtain ⟨B2, d2, rfl, h1, h2, _⟩ := ho'.row
              have hll : (out' ++ [(⟨x, p, (1 : Int)⟩ : Cel)]).length = m' + 1 := by rw [List.length_append, HLen.out]; rfl
              rw [hll] at h1 ho' ⊢
              refine ⟨jj + 1, m' + 1, d2, B2, _, rfl, by omega, rfl, by go_num, hll, by omega, h1, h2, ho', HOL.out.grown hg' (HOL.out.apart_ty HO'.out (by decide)), ?_, below_own hG' hg' (fun g e => (HO'.out.lt e).1) hG'.size⟩
              simp only [Hid]
              rw [HF.out, List.take_add_one, HX'.out]
              simp
          · have hjk2 : jj = 4 := by omega
            subst hjk2
            have HO' := Lib.hid ho'
            have HLen := Lib.hid hlen'
            clear ho' hoL hlen'
            go_wp2_with (fail)
            go_roundg (n - (p + 1))
            case measure => omega
            case rel =>
              refine ⟨p + 1, m', d', B', out', rfl, hq3, rfl, by go_num, HLen.out, by omega, hd1', hd2', HO'.out, ?_, hG'⟩
              simp only [Hid]
              rw [HE.out, cellsR_step (by rw [HN.out]; exact hlt), HLe.out, HS.out]
              rw [show ((1 : Int)).toNat = 1 from by first | rfl | exact Int.toNat_natCast _]
              congr 1
              rw [HF.out, cellsAt, HS.out, List.take_of_length_le (by rw [HK.out]; exact Nat.le_refl _)]
      · have hs : shownL xs p m = ([(dec xs p).1], (dec xs p).2) := by unfold shownL; rw [HBT.out, if_neg h9, if_neg h32', if_neg hu]
        have hdd : cd = 0 ∧ chh = (dec xs p).1 ∧ us = (dec xs p).2 := by have := HD.out; unfold decR at this; rw [if_neg hu] at this; cases this; exact ⟨rfl, rfl, rfl⟩
        obtain ⟨rfl, hch, hus⟩ := hdd
        rw [← hch, ← hus, HS.out] at hs
        obtain ⟨hL', hq'⟩ := Prod.mk.inj hs
        have hus2 : us = (q : Int) := hq'.symm
        subst hus2
        have hk' : k = 1 := by rw [← HK.out, hL']; rfl
        subst hk'
        obtain ⟨A1, hA1⟩ : ∃ A1 : Option Addr, A1 = some ⟨w1.heap.size + 1, 0, none⟩ := ⟨_, rfl⟩
        have HA1 := Lib.hid hA1
        obtain ⟨W2, hW2⟩ : ∃ W2, W2 = (W1.alloc (Obj.cells #[.int .i64 chh] 2)).drew := ⟨_, rfl⟩
        have GW2 : Below W1.heap.size W1 W2 := by rw [hW2]; (repeat' (first | (with_reducible exact Below.refl _ _) | (with_reducible assumption) | (with_reducible refine Below.alloc ?_ ?_ _) | (with_reducible refine bdN ?_ _) | (with_reducible refine Below.drew ?_) | (with_reducible refine Below.setCell ?_ ?_ _) | go_size))
        have HO1 := Lib.hid (show Own eI 1 2 W2 W1.heap.size (.slice A1 1 1) L by rw [hW2, hL', hA1, ← hz1]; exact (Own.lit W1 _ [chh] 1 (Nat.le_refl _) rfl (by unfold maxLen; omega) (Enc.map _ _)).drew)
        have HO2' := Lib.hid (HO2.out.below GW2)
        clear HO2
        have HO2 := HO2'
        have hG1 := hG2.trans (GW2.mono hG2.size)
        have HW2 := Lib.hid hW2
        clear hs hL' hq' HO2' hW2 hA1 hch hu h32' hus
        go_wp2_with (fail)
        rw [← HW1.out]
        go_region
        go_wp2_with (fail)
        rw [← HW2.out, ← HA1.out]
        go_loopg [3, 76] 1 (fun gk v3 v7 wr => ∃ (jj m' d' : Nat) (B' : Option Addr) (out' : List Cel), gk = 1 - jj ∧ jj ≤ 1 ∧ v3 = .slice B' m' d' ∧ v7 = .int .i64 jj ∧ out'.length = m' ∧ m' = m + jj ∧ m' ≤ d' ∧ d' ≤ maxLen ∧ Own eCel 3 46 wr w.heap.size (.slice B' m' d') out' ∧ Own eI 1 2 wr 0 (.slice A1 1 1) L ∧ Hid (out' = out ++ (L.take jj).map fun c => (⟨c, p, (q : Int)⟩ : Cel)) ∧ Below w.heap.size w wr)
        case atStart => exact ⟨0, m, d, B, out, rfl, by omega, rfl, rfl, HLe.out, rfl, hd1, hd2, HO2.out, HO1.out.lower (Nat.zero_le _), by simp [Hid], hG1⟩
        case round =>
          obtain ⟨jj, m', d', B', out', rfl, hj, rfl, rfl, hlen', hmj, hd1', hd2', ho', hoL, HF, hG'⟩ := hrel
          by_cases hjk : jj < 1
          · obtain ⟨x, hx⟩ := get_lt (xs := L) (i := jj) (by rw [HK.out]; exact hjk)
            obtain ⟨ad, rfl, a0⟩ := hoL.rowOf.eI hx
            have HO' := Lib.hid ho'
            have HOL := Lib.hid hoL
            have HLen := Lib.hid hlen'
            have HX' := Lib.hid hx
            have hbd : (out'.length + 1) * 24 ≤ 140737488355328 := by rw [hlen']; omega
            have hbd2 : out'.length + 1 ≤ maxLen := by rw [hlen']; unfold maxLen; omega
            have HBD := Lib.hid hbd
            have HBD2 := Lib.hid hbd2
            clear ho' hoL hlen' hx hbd hbd2
            go_wp2_with (first | (at_builtin; refine wp_append1 eCel 3 _ w.heap.size rfl _ _ 38 46 46 rfl Try.underlying38 (.agg #[.int .i64 0, .int .i64 0, .int .i64 0]) 24 info_cell ⟨0, 0, 0⟩ rfl eCel_len (by decide) eCel_one _ out' rfl HO'.out ⟨x, p, (q : Int)⟩ _ rfl rfl HBD.out HBD2.out hG'.size ?_; intro v' w' ho' hg'))
            go_roundg (1 - (jj + 1))
            case measure => omega
            case rel =>
              obtain ⟨B2, d2, rfl, h1, h2, _⟩ := ho'.row
              have hll : (out' ++ [(⟨x, p, (q : Int)⟩ : Cel)]).length = m' + 1 := by rw [List.length_append, HLen.out]; rfl
              rw [hll] at h1 ho' ⊢
              refine ⟨jj + 1, m' + 1, d2, B2, _, rfl, by omega, rfl, by go_num, hll, by omega, h1, h2, ho', HOL.out.grown hg' (HOL.out.apart_ty HO'.out (by decide)), ?_, below_own hG' hg' (fun g e => (HO'.out.lt e).1) hG'.size⟩
              simp only [Hid]
              rw [HF.out, List.take_add_one, HX'.out]
              simp
          · have hjk2 : jj = 1 := by omega
            subst hjk2
            have HO' := Lib.hid ho'
            have HLen := Lib.hid hlen'
            clear ho' hoL hlen'
            go_wp2_with (fail)
            go_roundg (n - (p + q))
            case measure => omega
            case rel =>
              refine ⟨p + q, m', d', B', out', rfl, hq3, rfl, by go_num, HLen.out, by omega, hd1', hd2', HO'.out, ?_, hG'⟩
              simp only [Hid]
              rw [HE.out, cellsR_step (by rw [HN.out]; exact hlt), HLe.out, HS.out]
              rw [show ((q : Int)).toNat = q from by first | rfl | exact Int.toNat_natCast _]
              congr 1
              rw [HF.out, cellsAt, HS.out, List.take_of_length_le (by rw [HK.out]; exact Nat.le_refl _)]
    · have hpn : p = n := by omega
      subst hpn
      have hcl : cellsOf xs = out := by rw [HE.out, cellsR_end (by rw [HN.out]; omega)]
      have HO := Lib.hid ho
      have HLe := Lib.hid hlen
      clear ho hlen
      go_wp2_with (fail)
      go_ret
      have := H.out B d _ (by rw [hcl, HLe.out]; exact HO.out) (by rw [hcl, HLe.out]; exact hd1) hd2 hG
      rw [hcl, HLe.out] at this
      exact this
end Go.Proofs.Ytcinaflmpdmdaaa.M
end
section
namespace Go.Proofs.Ytcinaflmpdmdaaa.M
open Go.RowKit
open Go.Proofs.YtcinaflmpdmdaaaW.PrintWords
section
variable {α β : Type} {d : Kd α} {enc : β → List Value} {f : α → β} {k : Nat} {w : World} {A : Option Addr} {n : Nat} {xs : List α}
theorem row_of_C (hk : d.sz = k) (hK : ∀ {w : World} {x cs}, d.K w x cs → cs = enc (f x)) (h : Kd.C d w A n xs) : Row enc k w A (xs.map f) := fun i y hy => by
  rw [List.getElem?_map] at hy
  cases hx : xs[i]? with
  | none => rw [hx] at hy; cases hy
  | some x =>
    rw [hx] at hy
    obtain rfl : f x = y := by simpa using hy
    have hi : i < xs.length := (List.getElem?_eq_some_iff.1 hx).1
    obtain ⟨ad, e, hc⟩ := h.2.2 (by rw [← h.1]; omega)
    obtain ⟨c, hcl, hR, hcell⟩ := hc i x hx
    refine ⟨ad, e, At.of_add fun j v hv => ?_⟩
    rw [hK hR] at hcell
    rw [add_add, ← hk]
    exact hcell j v hv
theorem C_of_row (hk : d.sz = k) (hK : ∀ (w : World) (x : α), d.K w x (enc (f x))) (hl : ∀ y, (enc y).length = k) (hm : xs.length ≤ 9223372036854775807) (h : Row enc k w A (xs.map f)) : Kd.C d w A xs.length xs := by
  refine ⟨rfl, hm, fun hn => ?_⟩
  obtain ⟨x0, hx0⟩ := get_lt hn
  obtain ⟨ad, e, _⟩ := h 0 (f x0) (by simp [hx0])
  refine ⟨ad, e, fun j p hj => ⟨enc (f p), by rw [hl, hk], hK w p, fun i u hu => ?_⟩⟩
  obtain ⟨ad', e', ha⟩ := h j (f p) (by simp [hj])
  obtain rfl : ad = ad' := by rw [e] at e'; exact Option.some.inj e'
  rw [hk, ← add_add]
  exact ha.add i u hu
theorem R_of_own {e : TypeId} {base : Nat} {v : Value} (hk : d.sz = k) (hM : ∀ (w : World) (b : Nat) (ok : Nat → Prop) (x : α), d.M w b ok x (enc (f x))) (hl : ∀ y, (enc y).length = k) (h : Own enc k e w base v (xs.map f)) : Kd.R d e w base (fun _ => True) v xs := by
  obtain ⟨cells, hE, ho⟩ := h
  rw [List.length_map] at ho
  refine ⟨fun _ _ => trivial, cells, by rw [hk]; exact ho, by rw [hE.1, List.length_map, hk], fun j p hj => ?_⟩
  have e : (cells.drop (j * d.sz)).take d.sz = enc (f p) := by
    have hjl : j < xs.length := (List.getElem?_eq_some_iff.1 hj).1
    have h1 : j * k + k ≤ cells.length := by rw [hE.1, List.length_map, ← Nat.succ_mul]; exact Nat.mul_le_mul_right _ hjl
    apply List.ext_getElem?
    intro i
    rw [hk]
    by_cases hi : i < k
    · rw [List.getElem?_take_of_lt hi, List.getElem?_drop]
      exact (hE.2 j (f p) (by simp [hj]) i _ (List.getElem?_eq_getElem (by rw [hl]; exact hi))).trans (List.getElem?_eq_getElem (by rw [hl]; exact hi)).symm
    · rw [List.getElem?_eq_none (by rw [List.length_take]; omega), List.getElem?_eq_none (by rw [hl]; omega)]
  rw [e]
  exact hM _ _ _ p
theorem own_of_R {e : TypeId} {base : Nat} {ok : Nat → Prop} {v : Value} (hk : d.sz = k) (hM : ∀ {w : World} {b : Nat} {ok : Nat → Prop} {x cs}, d.M w b ok x cs → cs = enc (f x)) (hl : ∀ y, (enc y).length = k) (h : Kd.R d e w base ok v xs) : Own enc k e w base v (xs.map f) := by
  obtain ⟨_, cells, ho, hR⟩ := h
  rw [hk] at ho
  refine ⟨cells, ⟨by rw [hR.1, List.length_map, hk], fun i y hy j u hu => ?_⟩, by rw [List.length_map]; exact ho⟩
  rw [List.getElem?_map] at hy
  cases hx : xs[i]? with
  | none => rw [hx] at hy; cases hy
  | some x =>
    rw [hx] at hy
    obtain rfl : f x = y := by simpa using hy
    have e := hM (hR.2 i x hx)
    have hj : j < k := by rw [← hl (f x)]; exact (List.getElem?_eq_some_iff.1 hu).1
    rw [hk] at e
    rw [← e, List.getElem?_take_of_lt hj, List.getElem?_drop] at hu
    exact hu
end
theorem row_ints {k : IntKind} {w : World} {A : Option Addr} {n : Nat} {xs : List Int} (h : Kd.C (Kd.int k) w A n xs) : Row (fun x => [Value.int k x]) 1 w A xs := by
  have := row_of_C (d := Kd.int k) (enc := fun x : Int => [Value.int k x]) (f := id) (k := 1) rfl (fun h => h) h
  simpa using this
theorem C_ints {k : IntKind} {w : World} {A : Option Addr} {xs : List Int} (hm : xs.length ≤ 9223372036854775807) (h : Row (fun x => [Value.int k x]) 1 w A xs) : Kd.C (Kd.int k) w A xs.length xs :=
  C_of_row (d := Kd.int k) (enc := fun x : Int => [Value.int k x]) (f := id) (k := 1) rfl (fun _ _ => rfl) (fun _ => rfl) hm (by simpa using h)
theorem R_ints {k : IntKind} {w : World} {e : TypeId} {base : Nat} {v : Value} {xs : List Int} (h : Own (fun x => [Value.int k x]) 1 e w base v xs) : Kd.R (Kd.int k) e w base (fun _ => True) v xs :=
  R_of_own (d := Kd.int k) (enc := fun x : Int => [Value.int k x]) (f := id) (k := 1) rfl (fun _ _ _ _ => rfl) (fun _ => rfl) (by simpa using h)
end Go.Proofs.Ytcinaflmpdmdaaa.M
end
section
namespace Go.Proofs.Ytcinaflmpdmdaaa.M
open Go.RowKit
def lineOk (l : List Int) : Bool := decide (l.length ≤ 1048576) && l.all fun x => decide (0 ≤ x ∧ x ≤ 255)
theorem lineOk_len {l : List Int} (h : lineOk l = true) : l.length ≤ 1048576 := by
  simp only [lineOk, Bool.and_eq_true, decide_eq_true_eq] at h
  exact h.1
theorem lineOk_byt {l : List Int} (h : lineOk l = true) : Byt l := fun i y hy => by
  simp only [lineOk, Bool.and_eq_true, List.all_eq_true, decide_eq_true_eq] at h
  exact h.2 y (List.mem_of_getElem? hy)
theorem cellsR_len (xs : List Int) : ∀ (d p : Nat) (out : List Cel), xs.length - p = d → (cellsR xs p out).length ≤ out.length + 4 * (xs.length - p) := fun d => by
  induction d using Nat.strongRecOn with
  | _ d ih =>
    intro p out hd
    by_cases h : p < xs.length
    · rw [cellsR_step h]
      obtain ⟨a, b, c, e⟩ := shown_n h out.length
      have := ih (xs.length - (p + (shownL xs p out.length).2.toNat)) (by omega) (p + (shownL xs p out.length).2.toNat) (out ++ cellsAt xs p out.length) rfl
      have h2 : (cellsAt xs p out.length).length = (shownL xs p out.length).1.length := by simp [cellsAt]
      rw [List.length_append, h2] at this
      omega
    · rw [cellsR_end h]
      omega
theorem cellsOf_len (xs : List Int) : (cellsOf xs).length ≤ 4 * xs.length := by
  have := cellsR_len xs xs.length 0 [] (by omega)
  simpa [cellsOf] using this
theorem lineOk_of {l : List Int} (h : l.length ≤ 1048576) (hw : ∀ x ∈ l, (Lit.int .u8 x).wf = true) : lineOk l = true := by
  simp only [lineOk, Bool.and_eq_true, List.all_eq_true, decide_eq_true_eq]
  refine ⟨h, fun x hx => ?_⟩
  exact bounds_u8 (hw x hx)
end Go.Proofs.Ytcinaflmpdmdaaa.M
end
section
namespace Go.Proofs.Ytcinaflmpdmdaaa.Q
open Go.RowKit Go.Proofs.YtcinaflmpdmdaaaW.PrintWords Go.Proofs.YtcinaflmpdmdaaaW.PrintLast Go.Proofs.YtcinaflmpdmdaaaW.PrintMore
attribute [local go_sem] max2_int min2_int max_two min_two max_three min_three max_four min_four   -- for this text's walks alone
set_option linter.unusedVariables false
set_option linter.unusedSimpArgs false

/-! ### impl_LayoutFault: function 16 -/
def impl_LayoutFault.j0 : Nat → Bool → Int → Bool → Int → Option (Int)
  | 0, _, _, _, _ => none
  | k + 1, x3, x102000, x102001, x102002 => if x3 = true then (some 3) else (if x102001 = true then (some 0) else (if x102002 = 0 then (some 0) else (some 1)))
def impl_LayoutFault.f (k : Nat) (a0_0 : Int) (a0_1 : Bool) (a0_2 : Int) : Option (Int) := (impl_within.f a0_0 1 40).bind fun t102 => (if t102 = true then ((impl_within.f a0_2 0 400).bind fun t103 => (impl_LayoutFault.j0 k (!t103) a0_0 a0_1 a0_2)) else (impl_LayoutFault.j0 k true a0_0 a0_1 a0_2))
theorem impl_LayoutFault.mono_l : ∀ k, (∀ y0 y1 y2 y3, LeO (impl_LayoutFault.j0 k y0 y1 y2 y3) (impl_LayoutFault.j0 (k + 1) y0 y1 y2 y3))
  | 0 => fun _ _ _ _ r h => by simp [impl_LayoutFault.j0] at h
  | k + 1 => by
    have ih0 := impl_LayoutFault.mono_l k
    · intro y0 y1 y2 y3
      unfold impl_LayoutFault.j0
      repeat' first
      | (with_reducible exact ih0 _ _ _ _)
      | (with_reducible exact LeO.refl _)
      | (with_reducible exact LeO.none _)
      | (with_reducible refine LeO.ite ?_ ?_)
      | (with_reducible refine LeO.bind ?_ (fun _ => ?_))
      | exact ih0 _ _ _ _
      | exact LeO.none _
      | refine LeO.ite ?_ ?_
      | refine LeO.bind ?_ (fun _ => ?_)
theorem impl_LayoutFault.mono : ∀ a0 a1 a2 k, LeO (impl_LayoutFault.f k a0 a1 a2) (impl_LayoutFault.f (k + 1) a0 a1 a2) := by
  intro a0 a1 a2 k
  have ih0 := impl_LayoutFault.mono_l k
  unfold impl_LayoutFault.f
  repeat' first
      | (with_reducible exact ih0 _ _ _ _)
      | (with_reducible exact LeO.refl _)
      | (with_reducible exact LeO.none _)
      | (with_reducible refine LeO.ite ?_ ?_)
      | (with_reducible refine LeO.bind ?_ (fun _ => ?_))
      | exact ih0 _ _ _ _
      | exact LeO.none _
      | refine LeO.ite ?_ ?_
      | refine LeO.bind ?_ (fun _ => ?_)
set_option maxHeartbeats 8000000 in
set_option maxRecDepth 100000 in
theorem impl_LayoutFault.calls (k : Nat) (a0_0 : Int) (a0_1 : Bool) (a0_2 : Int) (r : Int) (w : World) (h : impl_LayoutFault.f k a0_0 a0_1 a0_2 = some r) :
    Calls Try.prog 16 #[.agg #[.int .i64 a0_0, .bool a0_1, .int .i64 a0_2]] w fun e w' => e = .returned (.int .i64 r) ∧ Below w.heap.size w w' := by
  have hu25 := Try.underlying25
  have HB := Aside0.mk (Below.refl w.heap.size w)
  have H : ((impl_within.f a0_0 1 40).bind fun t102 => (if t102 = true then ((impl_within.f a0_2 0 400).bind fun t103 => (impl_LayoutFault.j0 k (!t103) a0_0 a0_1 a0_2)) else (impl_LayoutFault.j0 k true a0_0 a0_1 a0_2))) = some r := h
  clear h
  have HC2 := Aside0.mk H
  clear H
  go_enter Try.func16, Try.ntmps16
  go_upto_region 1 with (first | ((with_reducible refine gate_dst (N := 1) rfl ?_); refine box_event ?hg (N := 1) ?hd (cs := #[.int .i64 a0_0, .bool a0_1, .int .i64 a0_2]) (t := 25) ?hr ?_; (case hd => rfl); (case hg => rfl); (case hr => first | (go_simp; done) | (go_simp; rfl)); intro gb101 hg w3 hbox hb; have n0_ := Aside0.mk (below_step (by repeat (first | (with_reducible first | exact HB.out | apply below_alloc | apply pw_below_drewN | apply below_drew1) | exact HB.out)) hb); have n1_ := Aside0.mk (hbox); have n2_ := Aside0.mk ((by rw [hg]; exact (below_size (by repeat (first | (with_reducible first | exact HB.out | apply below_alloc | apply pw_below_drewN | apply below_drew1) | exact HB.out))) : w.heap.size ≤ gb101)); have n3_ := Aside0.mk ((by rw [hg]; exact (below_size (by repeat (first | (with_reducible first | exact HB.out | apply below_alloc | apply pw_below_drewN | apply below_drew1) | exact HB.out))) : w.heap.size ≤ gb101)); clear HB; have HB := n0_; have BK101 := n1_; have GW101 := n2_; have GE101 := n3_; clear n0_ n1_ n2_ n3_; clear hb hbox hg))
  (try simp only [Act.put, List.setIfInBounds_toArray, List.set_cons_zero, List.set_cons_succ])
  go_cut [3] (fun v3 wc => ∃ (kq : Nat) (x3_1 : Bool), v3 = .bool x3_1 ∧ Aside0 (impl_LayoutFault.j0 kq x3_1 a0_0 a0_1 a0_2 = some r) ∧ Aside0 (kq ≤ k) ∧ Aside0 (wc.heap[gb101]? = some (.cells #[.int .i64 a0_0, .bool a0_1, .int .i64 a0_2] 25 (0, 0))) ∧ Aside0 (Below w.heap.size w wc))
  case first =>
    have H := HC2.out
    clear HC2
    replace H := Option.bind_eq_some_iff.mp H
    obtain ⟨t102, A40, H⟩ := H
    replace H : (if t102 = true then ((impl_within.f a0_2 0 400).bind fun t103 => (impl_LayoutFault.j0 k (!t103) a0_0 a0_1 a0_2)) else (impl_LayoutFault.j0 k true a0_0 a0_1 a0_2)) = some r := H
    have A4 := Aside0.mk A40
    clear A40
    by_cases c5 : t102 = true
    · subst c5
      have H1 : ((impl_within.f a0_2 0 400).bind fun t103 => (impl_LayoutFault.j0 k (!t103) a0_0 a0_1 a0_2)) = some r := by rw [if_pos rfl] at H; exact H
      clear H
      have H := H1
      clear H1
      replace H := Option.bind_eq_some_iff.mp H
      obtain ⟨t103, A60, H⟩ := H
      replace H : (impl_LayoutFault.j0 k (!t103) a0_0 a0_1 a0_2) = some r := H
      have A6 := Aside0.mk A60
      clear A60
      have H' := Aside0.mk H
      clear H
      have hcz7_0 : w3.cell? ⟨gb101, 0, none⟩ = some (.int .i64 a0_0) := (blk_cell BK101.out 0).trans rfl
      have hcz7_1 : w3.cell? ⟨gb101, 1, none⟩ = some (.bool a0_1) := (blk_cell BK101.out 1).trans rfl
      have hcz7_2 : w3.cell? ⟨gb101, 2, none⟩ = some (.int .i64 a0_2) := (blk_cell BK101.out 2).trans rfl
      have hfz7_0 := blk_frozen BK101.out 0
      have hfz7_1 := blk_frozen BK101.out 1
      have hfz7_2 := blk_frozen BK101.out 2
      go_wp2_with (first | ((with_reducible refine gate_callee (f := 56) rfl ?_); refine goesL_ (some 6) rfl rfl Try.func56 (by kernel_rfl) rfl #[.int .i64 a0_0, .int .i64 1, .int .i64 40] rfl (by (try simp only [List.map_toArray, List.map_cons, List.map_nil]); first | done | rfl | (simp only [List.length_drop, List.length_take]; rfl)) ?_; (with_reducible refine (impl_within.calls a0_0 1 40 true _ A4.out).mono ?_); rintro e w' ⟨rfl, ⟨nd, rfl⟩⟩; refine ⟨_, rfl, ?_⟩) | (go_at_call 56; (with_reducible refine (impl_within.calls a0_2 0 400 t103 _ A6.out).mono ?_); rintro e w' ⟨rfl, ⟨nd, rfl⟩⟩))
      go_meet
      case rel => exact ⟨_, (!t103), (by first | rfl | (simp; done) | (simp [*]; done)), H', ⟨by first | omega | exact Nat.le_refl _⟩, ⟨by (with_reducible repeat (first | refine blk_drewN ?_ _ | refine blk_drew ?_ | refine blk_alloc ?_ _)); exact BK101.out⟩, ⟨by repeat (first | (with_reducible first | exact HB.out | apply below_alloc | apply pw_below_drewN | apply below_drew1 | refine below_set ?_ GE101.out) | exact HB.out)⟩⟩
    · replace c5 := Bool.eq_false_iff.mpr c5
      subst c5
      have H1 : (impl_LayoutFault.j0 k true a0_0 a0_1 a0_2) = some r := by rw [if_neg (show ¬ (false = true) by decide)] at H; exact H
      clear H
      have H := H1
      clear H1
      have H' := Aside0.mk H
      clear H
      have hcz8_0 : w3.cell? ⟨gb101, 0, none⟩ = some (.int .i64 a0_0) := (blk_cell BK101.out 0).trans rfl
      have hcz8_1 : w3.cell? ⟨gb101, 1, none⟩ = some (.bool a0_1) := (blk_cell BK101.out 1).trans rfl
      have hcz8_2 : w3.cell? ⟨gb101, 2, none⟩ = some (.int .i64 a0_2) := (blk_cell BK101.out 2).trans rfl
      have hfz8_0 := blk_frozen BK101.out 0
      have hfz8_1 := blk_frozen BK101.out 1
      have hfz8_2 := blk_frozen BK101.out 2
      go_wp2_with (first | ((with_reducible refine gate_callee (f := 56) rfl ?_); refine goesL_ (some 6) rfl rfl Try.func56 (by kernel_rfl) rfl #[.int .i64 a0_0, .int .i64 1, .int .i64 40] rfl (by (try simp only [List.map_toArray, List.map_cons, List.map_nil]); first | done | rfl | (simp only [List.length_drop, List.length_take]; rfl)) ?_; (with_reducible refine (impl_within.calls a0_0 1 40 false _ A4.out).mono ?_); rintro e w' ⟨rfl, ⟨nd, rfl⟩⟩; refine ⟨_, rfl, ?_⟩))
      go_meet
      case rel => exact ⟨_, (true), (by first | rfl | (simp; done) | (simp [*]; done)), H', ⟨by first | omega | exact Nat.le_refl _⟩, ⟨by (with_reducible repeat (first | refine blk_drewN ?_ _ | refine blk_drew ?_ | refine blk_alloc ?_ _)); exact BK101.out⟩, ⟨by repeat (first | (with_reducible first | exact HB.out | apply below_alloc | apply pw_below_drewN | apply below_drew1 | refine below_set ?_ GE101.out) | exact HB.out)⟩⟩
  case rest =>
    clear HC2
    try clear c1
    try clear p2
    try clear c5
    try clear hcz7_0
    try clear hcz7_1
    try clear hcz7_2
    try clear hcz8_0
    try clear hcz8_1
    try clear hcz8_2
    try clear hfz7_0
    try clear hfz7_1
    try clear hfz7_2
    try clear hfz8_0
    try clear hfz8_1
    try clear hfz8_2
    obtain ⟨kq, x3_1, rfl, HA, HJ1, BK101, HB⟩ := hcut
    cases kq with
    | zero => exact absurd HA.out (by simp [impl_LayoutFault.j0])
    | succ kj1 =>
      have H := HA.out
      clear HA
      simp only [impl_LayoutFault.j0] at H
      by_cases c9 : x3_1 = true
      · subst c9
        have H1 : (some 3) = some r := by rw [if_pos rfl] at H; exact H
        clear H
        have H := H1
        clear H1
        obtain rfl := Option.some.inj H
        go_wp2
        go_ret
        exact ⟨by first | rfl | (simp [errW_none, errW_some] <;> rfl) | (simp [*, errW_none, errW_some] <;> rfl), by repeat (first | (with_reducible first | exact HB.out | apply below_alloc | apply pw_below_drewN | apply below_drew1 | refine below_set ?_ GE101.out) | exact HB.out)⟩
      · replace c9 := Bool.eq_false_iff.mpr c9
        subst c9
        have H1 : (if a0_1 = true then (some 0) else (if a0_2 = 0 then (some 0) else (some 1))) = some r := by rw [if_neg (show ¬ (false = true) by decide)] at H; exact H
        clear H
        have H := H1
        clear H1
        by_cases c10 : a0_1 = true
        · subst c10
          have H1 : (some 0) = some r := by rw [if_pos rfl] at H; exact H
          clear H
          have H := H1
          clear H1
          obtain rfl := Option.some.inj H
          have hcz11_0 : wc.cell? ⟨gb101, 0, none⟩ = some (.int .i64 a0_0) := (blk_cell BK101.out 0).trans rfl
          have hcz11_1 : wc.cell? ⟨gb101, 1, none⟩ = some (.bool true) := (blk_cell BK101.out 1).trans rfl
          have hcz11_2 : wc.cell? ⟨gb101, 2, none⟩ = some (.int .i64 a0_2) := (blk_cell BK101.out 2).trans rfl
          have hfz11_0 := blk_frozen BK101.out 0
          have hfz11_1 := blk_frozen BK101.out 1
          have hfz11_2 := blk_frozen BK101.out 2
          go_wp2
          go_ret
          exact ⟨by first | rfl | (simp [errW_none, errW_some] <;> rfl) | (simp [*, errW_none, errW_some] <;> rfl), by repeat (first | (with_reducible first | exact HB.out | apply below_alloc | apply pw_below_drewN | apply below_drew1 | refine below_set ?_ GE101.out) | exact HB.out)⟩
        · replace c10 := Bool.eq_false_iff.mpr c10
          subst c10
          have H1 : (if a0_2 = 0 then (some 0) else (some 1)) = some r := by rw [if_neg (show ¬ (false = true) by decide)] at H; exact H
          clear H
          have H := H1
          clear H1
          by_cases c12 : a0_2 = 0
          · rw [if_pos c12] at H
            have c12b0 : (a0_2 == 0) = true := beq_iff_eq.mpr c12
            have c12b1 : (a0_2 != 0) = false := bne_eq_false_iff_eq.mpr c12
            clear c12
            obtain rfl := Option.some.inj H
            have hcz13_0 : wc.cell? ⟨gb101, 0, none⟩ = some (.int .i64 a0_0) := (blk_cell BK101.out 0).trans rfl
            have hcz13_1 : wc.cell? ⟨gb101, 1, none⟩ = some (.bool false) := (blk_cell BK101.out 1).trans rfl
            have hcz13_2 : wc.cell? ⟨gb101, 2, none⟩ = some (.int .i64 a0_2) := (blk_cell BK101.out 2).trans rfl
            have hfz13_0 := blk_frozen BK101.out 0
            have hfz13_1 := blk_frozen BK101.out 1
            have hfz13_2 := blk_frozen BK101.out 2
            go_wp2
            go_ret
            exact ⟨by first | rfl | (simp [errW_none, errW_some] <;> rfl) | (simp [*, errW_none, errW_some] <;> rfl), by repeat (first | (with_reducible first | exact HB.out | apply below_alloc | apply pw_below_drewN | apply below_drew1 | refine below_set ?_ GE101.out) | exact HB.out)⟩
          · rw [if_neg c12] at H
            have c12b0 : (a0_2 == 0) = false := beq_eq_false_iff_ne.mpr c12
            have c12b1 : (a0_2 != 0) = true := bne_iff_ne.mpr c12
            obtain rfl := Option.some.inj H
            have hcz14_0 : wc.cell? ⟨gb101, 0, none⟩ = some (.int .i64 a0_0) := (blk_cell BK101.out 0).trans rfl
            have hcz14_1 : wc.cell? ⟨gb101, 1, none⟩ = some (.bool false) := (blk_cell BK101.out 1).trans rfl
            have hcz14_2 : wc.cell? ⟨gb101, 2, none⟩ = some (.int .i64 a0_2) := (blk_cell BK101.out 2).trans rfl
            have hfz14_0 := blk_frozen BK101.out 0
            have hfz14_1 := blk_frozen BK101.out 1
            have hfz14_2 := blk_frozen BK101.out 2
            go_wp2
            go_ret
            exact ⟨by first | rfl | (simp [errW_none, errW_some] <;> rfl) | (simp [*, errW_none, errW_some] <;> rfl), by repeat (first | (with_reducible first | exact HB.out | apply below_alloc | apply pw_below_drewN | apply below_drew1 | refine below_set ?_ GE101.out) | exact HB.out)⟩

end Go.Proofs.Ytcinaflmpdmdaaa.Q
end
section
namespace Go.Proofs.Ytcinaflmpdmdaaa.Q
open Go.RowKit Go.Proofs.YtcinaflmpdmdaaaW.PrintWords Go.Proofs.YtcinaflmpdmdaaaW.PrintLast Go.Proofs.YtcinaflmpdmdaaaW.PrintMore
attribute [local go_sem] max2_int min2_int max_two min_two max_three min_three max_four min_four   -- for this text's walks alone
set_option linter.unusedVariables false
set_option linter.unusedSimpArgs false

/-- A state of type 25 at block g of W; what its slices lead to came in by w0. -/
def IsS25 (w0 W : World) (g : Nat) (f0 : Int) (f1 : Bool) (f2 : Int) : Prop := W.heap[g]? = some (.cells #[.int .i64 f0, .bool f1, .int .i64 f2] 25 (0, 0)) ∧ w0.heap.size ≤ g
theorem IsS25.grown {w0 W : World} {g : Nat} {f0 : Int} {f1 : Bool} {f2 : Int} {W1 : World} {row : Option Nat} (h : IsS25 w0 W g f0 f1 f2) (hw : W.grownBy W1 row) (hne : some g ≠ row) : IsS25 w0 W1 g f0 f1 f2 := by
  obtain ⟨hb, hg⟩ := h
  exact ⟨blk_grown hb hw hne, hg⟩
theorem IsS25.own_neN {w0 W : World} {g : Nat} {f0 : Int} {f1 : Bool} {f2 : Int} {α : Type} {d : Kd α} {e : Nat} {base : Nat} {ok : Nat → Prop} {v : Value} {xs : List α} (h : IsS25 w0 W g f0 f1 f2) (ho : Kd.N d e W base ok v xs) (ht : e ≠ 25) : some g ≠ v.ownBlock := by
  obtain ⟨hb, hg⟩ := h
  exact Kd.N_ne ho hb ht
theorem IsS25.fresh {w0 W : World} {g : Nat} {f0 : Int} {f1 : Bool} {f2 : Int} (h : IsS25 w0 W g f0 f1 f2) : ∀ k, W.heap.size ≤ k → k ≠ g := by
  obtain ⟨hb, hg⟩ := h
  exact Kd.freshB hb
theorem IsS25.kept {w0 W : World} {g : Nat} {f0 : Int} {f1 : Bool} {f2 : Int} {W1 : World} {S : Nat → Prop} (h : IsS25 w0 W g f0 f1 f2) (hk : Kept W W1 S) (hne : ¬ S g) : IsS25 w0 W1 g f0 f1 f2 := by
  obtain ⟨hb, hg⟩ := h
  exact ⟨blk_kept hb hk hne, hg⟩
theorem IsS25.below {w0 W : World} {g : Nat} {f0 : Int} {f1 : Bool} {f2 : Int} {W1 : World} (h : IsS25 w0 W g f0 f1 f2) (hw : Below W.heap.size W W1) : IsS25 w0 W1 g f0 f1 f2 := h.grown (grown_of_below hw none) (by simp)
theorem IsS25.alloc {w0 W : World} {g : Nat} {f0 : Int} {f1 : Bool} {f2 : Int} (h : IsS25 w0 W g f0 f1 f2) (o : Obj) : IsS25 w0 (W.alloc o) g f0 f1 f2 := h.below (below_alloc (Below.refl _ _) o)
theorem IsS25.drewN {w0 W : World} {g : Nat} {f0 : Int} {f1 : Bool} {f2 : Int} (h : IsS25 w0 W g f0 f1 f2) (m : Nat) : IsS25 w0 (W.drewN m) g f0 f1 f2 := h
theorem IsS25.drew {w0 W : World} {g : Nat} {f0 : Int} {f1 : Bool} {f2 : Int} (h : IsS25 w0 W g f0 f1 f2) : IsS25 w0 W.drew g f0 f1 f2 := h
theorem IsS25.at_ {w0 W : World} {g : Nat} {f0 : Int} {f1 : Bool} {f2 : Int} {w' : World} {m : Nat} (hq : W.drewN m = w') (h : IsS25 w0 W g f0 f1 f2) : IsS25 w0 w' g f0 f1 f2 := by subst hq; exact IsS25.drewN h m
theorem IsS25.apart {w0 W : World} {g : Nat} {f0 : Int} {f1 : Bool} {f2 : Int} {α : Type} {d : Kd α} {e : Nat} {base : Nat} {ok : Nat → Prop} {v : Value} {xs : List α} (h : IsS25 w0 W g f0 f1 f2) (ho : d.R e W base ok v xs) (ht : ∀ q, q ∈ e :: d.E → q ≠ 25) : d.R e W base (fun k => ok k ∧ k ≠ g) v xs := by
  obtain ⟨hb, hg⟩ := h
  exact Kd.R_types ho hb ht
theorem IsS25.own_ne {w0 W : World} {g : Nat} {f0 : Int} {f1 : Bool} {f2 : Int} {α : Type} {d : Kd α} {e : Nat} {base : Nat} {ok : Nat → Prop} {v : Value} {xs : List α} (h : IsS25 w0 W g f0 f1 f2) (ho : d.R e W base ok v xs) (ht : e ≠ 25) : some g ≠ v.ownBlock := by
  obtain ⟨hb, hg⟩ := h
  exact Kd.R_ne ho hb ht
theorem IsS25.apartQ {w0 W : World} {g : Nat} {f0 : Int} {f1 : Bool} {f2 : Int} {α : Type} {d : Kd α} {e : Nat} {base : Nat} {ok : Nat → Prop} {v : Value} {xs : List α} (h : IsS25 w0 W g f0 f1 f2) (ho : d.Q e W base ok v xs) (ht : ∀ q, q ∈ e :: d.E → q ≠ 25) : d.Q e W base (fun k => ok k ∧ k ≠ g) v xs := by
  obtain ⟨hb, hg⟩ := h
  exact Kd.Q_types ho hb ht
theorem IsS25.own_neQ {w0 W : World} {g : Nat} {f0 : Int} {f1 : Bool} {f2 : Int} {α : Type} {d : Kd α} {e : Nat} {base : Nat} {ok : Nat → Prop} {v : Value} {xs : List α} (h : IsS25 w0 W g f0 f1 f2) (ho : d.Q e W base ok v xs) (ht : e ≠ 25) : some g ≠ v.ownBlock := by
  obtain ⟨hb, hg⟩ := h
  exact Kd.Q_ne ho hb ht
theorem IsS25.apartS {w0 W : World} {g : Nat} {f0 : Int} {f1 : Bool} {f2 : Int} {α : Type} {d : Kd α} {e : Nat} {base : Nat} {ok : Nat → Prop} {v : Value} {xs : List α} (h : IsS25 w0 W g f0 f1 f2) (ho : d.S e W base ok v xs) (ht : ∀ q, q ∈ e :: d.E → q ≠ 25) : d.S e W base (fun k => ok k ∧ k ≠ g) v xs := by
  obtain ⟨hb, hg⟩ := h
  exact Kd.S_types ho hb ht
theorem IsS25.own_neS {w0 W : World} {g : Nat} {f0 : Int} {f1 : Bool} {f2 : Int} {α : Type} {d : Kd α} {e : Nat} {base : Nat} {ok : Nat → Prop} {v : Value} {xs : List α} (h : IsS25 w0 W g f0 f1 f2) (ho : d.S e W base ok v xs) (ht : e ≠ 25) : some g ≠ v.ownBlock := by
  obtain ⟨hb, hg⟩ := h
  exact Kd.S_ne ho hb ht
theorem IsS25.lt {w0 W : World} {g : Nat} {f0 : Int} {f1 : Bool} {f2 : Int} (h : IsS25 w0 W g f0 f1 f2) : g < W.heap.size := by
  obtain ⟨hb, hg⟩ := h
  exact blk_lt hb
theorem IsS25.ge {w0 W : World} {g : Nat} {f0 : Int} {f1 : Bool} {f2 : Int} (h : IsS25 w0 W g f0 f1 f2) : w0.heap.size ≤ g := by
  obtain ⟨hb, hg⟩ := h
  exact hg
theorem IsS25.ne_blk {w0 W : World} {g : Nat} {f0 : Int} {f1 : Bool} {f2 : Int} {a : Nat} {cs : Array Value} {t : TypeId} {fr : Nat × Nat} (h : IsS25 w0 W g f0 f1 f2) (hb2 : W.heap[a]? = some (.cells cs t fr)) (ht : t ≠ 25) : g ≠ a := by
  obtain ⟨hb, hg⟩ := h
  rintro rfl
  rw [hb] at hb2
  injection hb2 with hb2
  injection hb2 with _ ht2
  exact ht ht2.symm
theorem IsS25.far {w0 W : World} {g : Nat} {f0 : Int} {f1 : Bool} {f2 : Int} {p : Addr} (h : IsS25 w0 W g f0 f1 f2) (hne : g ≠ p.block) (u : Value) : IsS25 w0 (W.setCell p u) g f0 f1 f2 := by
  obtain ⟨hb, hg⟩ := h
  exact ⟨blk_far hb hne u, hg⟩
theorem cellS25_0 {W : World} {g : Nat} {f0 : Int} {f1 : Bool} {f2 : Int} (h : W.heap[g]? = some (.cells #[.int .i64 f0, .bool f1, .int .i64 f2] 25 (0, 0))) : W.cell? ⟨g, 0, none⟩ = some (.int .i64 f0) := (blk_cell h 0).trans rfl
theorem IsS25.set_0 {w0 W : World} {g : Nat} {f0 : Int} {f1 : Bool} {f2 : Int} (h : IsS25 w0 W g f0 f1 f2) (x : Int) : IsS25 w0 (W.setCell ⟨g, 0, none⟩ (.int .i64 x)) g x f1 f2 := by
  obtain ⟨hb, hg⟩ := h
  exact ⟨by simpa using blk_set hb 0 (.int .i64 x), hg⟩
theorem cellS25_1 {W : World} {g : Nat} {f0 : Int} {f1 : Bool} {f2 : Int} (h : W.heap[g]? = some (.cells #[.int .i64 f0, .bool f1, .int .i64 f2] 25 (0, 0))) : W.cell? ⟨g, 1, none⟩ = some (.bool f1) := (blk_cell h 1).trans rfl
theorem IsS25.set_1 {w0 W : World} {g : Nat} {f0 : Int} {f1 : Bool} {f2 : Int} (h : IsS25 w0 W g f0 f1 f2) (x : Bool) : IsS25 w0 (W.setCell ⟨g, 1, none⟩ (.bool x)) g f0 x f2 := by
  obtain ⟨hb, hg⟩ := h
  exact ⟨by simpa using blk_set hb 1 (.bool x), hg⟩
theorem cellS25_2 {W : World} {g : Nat} {f0 : Int} {f1 : Bool} {f2 : Int} (h : W.heap[g]? = some (.cells #[.int .i64 f0, .bool f1, .int .i64 f2] 25 (0, 0))) : W.cell? ⟨g, 2, none⟩ = some (.int .i64 f2) := (blk_cell h 2).trans rfl
theorem IsS25.set_2 {w0 W : World} {g : Nat} {f0 : Int} {f1 : Bool} {f2 : Int} (h : IsS25 w0 W g f0 f1 f2) (x : Int) : IsS25 w0 (W.setCell ⟨g, 2, none⟩ (.int .i64 x)) g f0 f1 x := by
  obtain ⟨hb, hg⟩ := h
  exact ⟨by simpa using blk_set hb 2 (.int .i64 x), hg⟩
theorem IsS25.new (w0 W : World) (f0 : Int) (f1 : Bool) (f2 : Int) (hB : Below w0.heap.size w0 W) : IsS25 w0 (W.alloc (.cells #[.int .i64 f0, .bool f1, .int .i64 f2] 25)) W.heap.size f0 f1 f2 := ⟨by simpa using heap_alloc_new W _, hB.size⟩

/-! ### spec_l10Fault: function 55 -/
def spec_l10Fault.j0 : Nat → Bool → Int → Bool → Int → Option (Int × Int × Bool × Int)
  | 0, _, _, _, _ => none
  | k + 1, x16, x1000, x1001, x1002 => if x16 = true then (some (3, x1000, x1001, x1002)) else (if x1001 = true then (some (0, x1000, x1001, x1002)) else (if x1002 = 0 then (some (0, x1000, x1001, x1002)) else (some (1, x1000, x1001, x1002))))
def spec_l10Fault.f (k : Nat) (s0_0 : Int) (s0_1 : Bool) (s0_2 : Int) : Option (Int × Int × Bool × Int) := (spec_l1In.f s0_0 1 40).bind fun t101 => (if t101 = true then ((spec_l1In.f s0_2 0 400).bind fun t102 => (spec_l10Fault.j0 k (!t102) s0_0 s0_1 s0_2)) else (spec_l10Fault.j0 k true s0_0 s0_1 s0_2))
theorem spec_l10Fault.mono_l : ∀ k, (∀ y0 y1 y2 y3, LeO (spec_l10Fault.j0 k y0 y1 y2 y3) (spec_l10Fault.j0 (k + 1) y0 y1 y2 y3))
  | 0 => fun _ _ _ _ r h => by simp [spec_l10Fault.j0] at h
  | k + 1 => by
    have ih0 := spec_l10Fault.mono_l k
    · intro y0 y1 y2 y3
      unfold spec_l10Fault.j0
      repeat' first
      | (with_reducible exact ih0 _ _ _ _)
      | (with_reducible exact LeO.refl _)
      | (with_reducible exact LeO.none _)
      | (with_reducible refine LeO.ite ?_ ?_)
      | (with_reducible refine LeO.bind ?_ (fun _ => ?_))
      | exact ih0 _ _ _ _
      | exact LeO.none _
      | refine LeO.ite ?_ ?_
      | refine LeO.bind ?_ (fun _ => ?_)
theorem spec_l10Fault.mono : ∀ a0 a1 a2 k, LeO (spec_l10Fault.f k a0 a1 a2) (spec_l10Fault.f (k + 1) a0 a1 a2) := by
  intro a0 a1 a2 k
  have ih0 := spec_l10Fault.mono_l k
  unfold spec_l10Fault.f
  repeat' first
      | (with_reducible exact ih0 _ _ _ _)
      | (with_reducible exact LeO.refl _)
      | (with_reducible exact LeO.none _)
      | (with_reducible refine LeO.ite ?_ ?_)
      | (with_reducible refine LeO.bind ?_ (fun _ => ?_))
      | exact ih0 _ _ _ _
      | exact LeO.none _
      | refine LeO.ite ?_ ?_
      | refine LeO.bind ?_ (fun _ => ?_)
set_option maxHeartbeats 8000000 in
set_option maxRecDepth 100000 in
theorem spec_l10Fault.calls (k : Nat) (g : Nat) (s0_0 : Int) (s0_1 : Bool) (s0_2 : Int) (r1 : Int) (r2 : Int) (r3 : Bool) (r4 : Int) (w0 w : World) (hI : IsS25 w0 w g s0_0 s0_1 s0_2) (hB : Below w0.heap.size w0 w) (h : spec_l10Fault.f k s0_0 s0_1 s0_2 = some (r1, r2, r3, r4)) :
    Calls Try.prog 55 #[.pointer (some ⟨g, 0, none⟩)] w fun e w' => e = .returned (.int .i64 r1) ∧ IsS25 w0 w' g r2 r3 r4 ∧ Below w0.heap.size w0 w' ∧ KeepBut w w' g none := by
  have HI0 := Aside0.mk hI
  have HK := Aside0.mk (KeepBut.refl w g none)
  have HL := Aside0.mk hB.size
  clear hI
  have HW0 := Aside0.mk hB.size
  have HB := Aside0.mk hB
  clear hB
  have H : ((spec_l1In.f s0_0 1 40).bind fun t101 => (if t101 = true then ((spec_l1In.f s0_2 0 400).bind fun t102 => (spec_l10Fault.j0 k (!t102) s0_0 s0_1 s0_2)) else (spec_l10Fault.j0 k true s0_0 s0_1 s0_2))) = some (r1, r2, r3, r4) := h
  clear h
  have HC2 := Aside0.mk H
  clear H
  go_enter Try.func55, Try.ntmps55
  go_upto_region 1 with (fail)
  go_cut [16] (fun v16 wc => ∃ (kq : Nat) (x16_1 : Bool), v16 = .bool x16_1 ∧ Aside0 (spec_l10Fault.j0 kq x16_1 s0_0 s0_1 s0_2 = some (r1, r2, r3, r4)) ∧ Aside0 (kq ≤ k) ∧ Aside0 (IsS25 w0 wc g s0_0 s0_1 s0_2) ∧ Aside0 (KeepBut w wc g none) ∧ Aside0 (Below w0.heap.size w0 wc))
  case first =>
    have H := HC2.out
    clear HC2
    replace H := Option.bind_eq_some_iff.mp H
    obtain ⟨t101, A30, H⟩ := H
    replace H : (if t101 = true then ((spec_l1In.f s0_2 0 400).bind fun t102 => (spec_l10Fault.j0 k (!t102) s0_0 s0_1 s0_2)) else (spec_l10Fault.j0 k true s0_0 s0_1 s0_2)) = some (r1, r2, r3, r4) := H
    have A3 := Aside0.mk A30
    clear A30
    by_cases c4 : t101 = true
    · subst c4
      have H1 : ((spec_l1In.f s0_2 0 400).bind fun t102 => (spec_l10Fault.j0 k (!t102) s0_0 s0_1 s0_2)) = some (r1, r2, r3, r4) := by rw [if_pos rfl] at H; exact H
      clear H
      have H := H1
      clear H1
      replace H := Option.bind_eq_some_iff.mp H
      obtain ⟨t102, A50, H⟩ := H
      replace H : (spec_l10Fault.j0 k (!t102) s0_0 s0_1 s0_2) = some (r1, r2, r3, r4) := H
      have A5 := Aside0.mk A50
      clear A50
      have H' := Aside0.mk H
      clear H
      obtain ⟨HGz6, hgz6⟩ := HI0.out
      have hcz6_0 := cellS25_0 HGz6
      have hcz6_1 := cellS25_1 HGz6
      have hcz6_2 := cellS25_2 HGz6
      have hfz6_0 := blk_frozen HGz6 0
      have hfz6_1 := blk_frozen HGz6 1
      have hfz6_2 := blk_frozen HGz6 2
      clear HGz6 hgz6
      go_wp2_with (first | ((with_reducible refine gate_callee (f := 82) rfl ?_); refine goesL_ (some 7) rfl rfl Try.func82 (by kernel_rfl) rfl #[.int .i64 s0_0, .int .i64 1, .int .i64 40] rfl (by (try simp only [List.map_toArray, List.map_cons, List.map_nil]); first | done | rfl | (simp only [List.length_drop, List.length_take]; rfl)) ?_; (with_reducible refine (spec_l1In.calls s0_0 1 40 true _ A3.out).mono ?_); rintro e w' ⟨rfl, ⟨nd, rfl⟩⟩; refine ⟨_, rfl, ?_⟩) | (go_at_call 82; (with_reducible refine (spec_l1In.calls s0_2 0 400 t102 _ A5.out).mono ?_); rintro e w' ⟨rfl, ⟨nd, rfl⟩⟩))
      go_meet
      case rel => exact ⟨_, (!t102), (by first | rfl | (simp; done) | (simp [*]; done)), H', ⟨by first | omega | exact Nat.le_refl _⟩, ⟨by repeat (first | (with_reducible first | exact HI0.out | apply IsS25.alloc | apply IsS25.drewN | apply IsS25.drew | apply IsS25.set_0 | apply IsS25.set_1 | apply IsS25.set_2) | exact HI0.out)⟩, ⟨by repeat (first | (with_reducible first | exact HK.out | apply KeepBut.set_ | apply keep_drewN | apply keep_drew | apply keep_alloc) | exact HK.out)⟩, ⟨by repeat (first | (with_reducible first | exact HB.out | apply below_alloc | apply pw_below_drewN | apply below_drew1 | refine below_set ?_ (IsS25.ge HI0.out)) | exact HB.out)⟩⟩
    · replace c4 := Bool.eq_false_iff.mpr c4
      subst c4
      have H1 : (spec_l10Fault.j0 k true s0_0 s0_1 s0_2) = some (r1, r2, r3, r4) := by rw [if_neg (show ¬ (false = true) by decide)] at H; exact H
      clear H
      have H := H1
      clear H1
      have H' := Aside0.mk H
      clear H
      obtain ⟨HGz7, hgz7⟩ := HI0.out
      have hcz7_0 := cellS25_0 HGz7
      have hcz7_1 := cellS25_1 HGz7
      have hcz7_2 := cellS25_2 HGz7
      have hfz7_0 := blk_frozen HGz7 0
      have hfz7_1 := blk_frozen HGz7 1
      have hfz7_2 := blk_frozen HGz7 2
      clear HGz7 hgz7
      go_wp2_with (first | ((with_reducible refine gate_callee (f := 82) rfl ?_); refine goesL_ (some 7) rfl rfl Try.func82 (by kernel_rfl) rfl #[.int .i64 s0_0, .int .i64 1, .int .i64 40] rfl (by (try simp only [List.map_toArray, List.map_cons, List.map_nil]); first | done | rfl | (simp only [List.length_drop, List.length_take]; rfl)) ?_; (with_reducible refine (spec_l1In.calls s0_0 1 40 false _ A3.out).mono ?_); rintro e w' ⟨rfl, ⟨nd, rfl⟩⟩; refine ⟨_, rfl, ?_⟩))
      go_meet
      case rel => exact ⟨_, (true), (by first | rfl | (simp; done) | (simp [*]; done)), H', ⟨by first | omega | exact Nat.le_refl _⟩, ⟨by repeat (first | (with_reducible first | exact HI0.out | apply IsS25.alloc | apply IsS25.drewN | apply IsS25.drew | apply IsS25.set_0 | apply IsS25.set_1 | apply IsS25.set_2) | exact HI0.out)⟩, ⟨by repeat (first | (with_reducible first | exact HK.out | apply KeepBut.set_ | apply keep_drewN | apply keep_drew | apply keep_alloc) | exact HK.out)⟩, ⟨by repeat (first | (with_reducible first | exact HB.out | apply below_alloc | apply pw_below_drewN | apply below_drew1 | refine below_set ?_ (IsS25.ge HI0.out)) | exact HB.out)⟩⟩
  case rest =>
    clear HC2
    try clear p2
    try clear c4
    try clear c5
    try clear hcz6_0
    try clear hcz6_1
    try clear hcz6_2
    try clear hcz7_0
    try clear hcz7_1
    try clear hcz7_2
    try clear hfz6_0
    try clear hfz6_1
    try clear hfz6_2
    try clear hfz7_0
    try clear hfz7_1
    try clear hfz7_2
    obtain ⟨kq, x16_1, rfl, HA, HJ1, HI0, HK, HB⟩ := hcut
    cases kq with
    | zero => exact absurd HA.out (by simp [spec_l10Fault.j0])
    | succ kj1 =>
      have H := HA.out
      clear HA
      simp only [spec_l10Fault.j0] at H
      by_cases c8 : x16_1 = true
      · subst c8
        have H1 : (some (3, s0_0, s0_1, s0_2)) = some (r1, r2, r3, r4) := by rw [if_pos rfl] at H; exact H
        clear H
        have H := H1
        clear H1
        simp only [Option.some.injEq, Prod.mk.injEq] at H
        obtain ⟨rfl, rfl, rfl, rfl⟩ := H
        go_wp2
        go_ret
        exact ⟨by first | rfl | (simp [errW_none, errW_some] <;> rfl) | (simp [*, errW_none, errW_some] <;> rfl), by repeat (first | (with_reducible first | exact HI0.out | apply IsS25.alloc | apply IsS25.drewN | apply IsS25.drew | apply IsS25.set_0 | apply IsS25.set_1 | apply IsS25.set_2) | exact HI0.out), by repeat (first | (with_reducible first | exact HB.out | apply below_alloc | apply pw_below_drewN | apply below_drew1 | refine below_set ?_ (IsS25.ge HI0.out)) | exact HB.out), by repeat (first | (with_reducible first | exact HK.out | apply KeepBut.set_ | apply keep_drewN | apply keep_drew | apply keep_alloc) | exact HK.out)⟩
      · replace c8 := Bool.eq_false_iff.mpr c8
        subst c8
        have H1 : (if s0_1 = true then (some (0, s0_0, s0_1, s0_2)) else (if s0_2 = 0 then (some (0, s0_0, s0_1, s0_2)) else (some (1, s0_0, s0_1, s0_2)))) = some (r1, r2, r3, r4) := by rw [if_neg (show ¬ (false = true) by decide)] at H; exact H
        clear H
        have H := H1
        clear H1
        by_cases c9 : s0_1 = true
        · subst c9
          have H1 : (some (0, s0_0, true, s0_2)) = some (r1, r2, r3, r4) := by rw [if_pos rfl] at H; exact H
          clear H
          have H := H1
          clear H1
          simp only [Option.some.injEq, Prod.mk.injEq] at H
          obtain ⟨rfl, rfl, rfl, rfl⟩ := H
          obtain ⟨HGz10, hgz10⟩ := HI0.out
          have hcz10_0 := cellS25_0 HGz10
          have hcz10_1 := cellS25_1 HGz10
          have hcz10_2 := cellS25_2 HGz10
          have hfz10_0 := blk_frozen HGz10 0
          have hfz10_1 := blk_frozen HGz10 1
          have hfz10_2 := blk_frozen HGz10 2
          clear HGz10 hgz10
          go_wp2
          go_ret
          exact ⟨by first | rfl | (simp [errW_none, errW_some] <;> rfl) | (simp [*, errW_none, errW_some] <;> rfl), by repeat (first | (with_reducible first | exact HI0.out | apply IsS25.alloc | apply IsS25.drewN | apply IsS25.drew | apply IsS25.set_0 | apply IsS25.set_1 | apply IsS25.set_2) | exact HI0.out), by repeat (first | (with_reducible first | exact HB.out | apply below_alloc | apply pw_below_drewN | apply below_drew1 | refine below_set ?_ (IsS25.ge HI0.out)) | exact HB.out), by repeat (first | (with_reducible first | exact HK.out | apply KeepBut.set_ | apply keep_drewN | apply keep_drew | apply keep_alloc) | exact HK.out)⟩
        · replace c9 := Bool.eq_false_iff.mpr c9
          subst c9
          have H1 : (if s0_2 = 0 then (some (0, s0_0, false, s0_2)) else (some (1, s0_0, false, s0_2))) = some (r1, r2, r3, r4) := by rw [if_neg (show ¬ (false = true) by decide)] at H; exact H
          clear H
          have H := H1
          clear H1
          by_cases c11 : s0_2 = 0
          · rw [if_pos c11] at H
            have c11b0 : (s0_2 == 0) = true := beq_iff_eq.mpr c11
            have c11b1 : (s0_2 != 0) = false := bne_eq_false_iff_eq.mpr c11
            clear c11
            simp only [Option.some.injEq, Prod.mk.injEq] at H
            obtain ⟨rfl, rfl, rfl, rfl⟩ := H
            obtain ⟨HGz12, hgz12⟩ := HI0.out
            have hcz12_0 := cellS25_0 HGz12
            have hcz12_1 := cellS25_1 HGz12
            have hcz12_2 := cellS25_2 HGz12
            have hfz12_0 := blk_frozen HGz12 0
            have hfz12_1 := blk_frozen HGz12 1
            have hfz12_2 := blk_frozen HGz12 2
            clear HGz12 hgz12
            go_wp2
            go_ret
            exact ⟨by first | rfl | (simp [errW_none, errW_some] <;> rfl) | (simp [*, errW_none, errW_some] <;> rfl), by repeat (first | (with_reducible first | exact HI0.out | apply IsS25.alloc | apply IsS25.drewN | apply IsS25.drew | apply IsS25.set_0 | apply IsS25.set_1 | apply IsS25.set_2) | exact HI0.out), by repeat (first | (with_reducible first | exact HB.out | apply below_alloc | apply pw_below_drewN | apply below_drew1 | refine below_set ?_ (IsS25.ge HI0.out)) | exact HB.out), by repeat (first | (with_reducible first | exact HK.out | apply KeepBut.set_ | apply keep_drewN | apply keep_drew | apply keep_alloc) | exact HK.out)⟩
          · rw [if_neg c11] at H
            have c11b0 : (s0_2 == 0) = false := beq_eq_false_iff_ne.mpr c11
            have c11b1 : (s0_2 != 0) = true := bne_iff_ne.mpr c11
            simp only [Option.some.injEq, Prod.mk.injEq] at H
            obtain ⟨rfl, rfl, rfl, rfl⟩ := H
            obtain ⟨HGz13, hgz13⟩ := HI0.out
            have hcz13_0 := cellS25_0 HGz13
            have hcz13_1 := cellS25_1 HGz13
            have hcz13_2 := cellS25_2 HGz13
            have hfz13_0 := blk_frozen HGz13 0
            have hfz13_1 := blk_frozen HGz13 1
            have hfz13_2 := blk_frozen HGz13 2
            clear HGz13 hgz13
            go_wp2
            go_ret
            exact ⟨by first | rfl | (simp [errW_none, errW_some] <;> rfl) | (simp [*, errW_none, errW_some] <;> rfl), by repeat (first | (with_reducible first | exact HI0.out | apply IsS25.alloc | apply IsS25.drewN | apply IsS25.drew | apply IsS25.set_0 | apply IsS25.set_1 | apply IsS25.set_2) | exact HI0.out), by repeat (first | (with_reducible first | exact HB.out | apply below_alloc | apply pw_below_drewN | apply below_drew1 | refine below_set ?_ (IsS25.ge HI0.out)) | exact HB.out), by repeat (first | (with_reducible first | exact HK.out | apply KeepBut.set_ | apply keep_drewN | apply keep_drew | apply keep_alloc) | exact HK.out)⟩

end Go.Proofs.Ytcinaflmpdmdaaa.Q
end
section
namespace Go.Proofs.Ytcinaflmpdmdaaa.Q
open Go.RowKit Go.Proofs.YtcinaflmpdmdaaaW.PrintWords Go.Proofs.YtcinaflmpdmdaaaW.PrintLast Go.Proofs.YtcinaflmpdmdaaaW.PrintMore
attribute [local go_sem] max2_int min2_int max_two min_two max_three min_three max_four min_four   -- for this text's walks alone
set_option linter.unusedVariables false
set_option linter.unusedSimpArgs false

/-! ### spec_l1Cells: function 57 -/
def cellsS (l : List Int) : List S46 := (M.cellsOf l).map fun c => ⟨c.a, c.b, c.c⟩
theorem cellsS_map (l : List Int) : (cellsS l).map (fun s : S46 => (⟨s.f0, s.f1, s.f2⟩ : M.Cel)) = M.cellsOf l := by
  rw [cellsS, List.map_map]
  exact List.map_id _
def spec_l1Cells.f (l0 : List Int) : Option (List S46) := if M.lineOk l0 = true then some (cellsS l0) else none
theorem cellsS_R {w : World} {base : Nat} {v : Value} {l : List Int} (h : M.Own M.eCel 3 46 w base v (M.cellsOf l)) : Kd.R k46 46 w base (fun _ => True) v (cellsS l) :=
  M.R_of_own (f := fun s : S46 => (⟨s.f0, s.f1, s.f2⟩ : M.Cel)) rfl (fun w b ok x => k46_mkM w b ok x) M.eCel_len (by rw [cellsS_map]; exact h)
theorem spec_l1Cells.calls (A0 : Option Addr) (c0 : Nat) (l0 : List Int) (r : List (S46)) (w : World) (hr0 : Kd.C (Kd.int .u8) w A0 l0.length l0) (hc0 : l0.length ≤ c0) (h : spec_l1Cells.f l0 = some r) :
    Calls Try.prog 57 #[.slice A0 l0.length c0] w fun e w' => ∃ v0_ : Value, e = .returned (v0_) ∧ Kd.R k46 46 w' w.heap.size (fun _ => True) v0_ r ∧ Below w.heap.size w w' := by
  unfold spec_l1Cells.f at h
  split at h
  · rename_i hok
    obtain rfl := Option.some.inj h
    exact M.l1Cells_c A0 l0.length c0 l0 w rfl (M.row_ints hr0) (M.lineOk_byt hok) (M.lineOk_len hok) _ (fun A' c' w' ho _ _ hb => ⟨_, rfl, cellsS_R ho, hb⟩)
  · cases h

end Go.Proofs.Ytcinaflmpdmdaaa.Q
end
section
namespace Go.Proofs.Ytcinaflmpdmdaaa.Q
open Go.RowKit Go.Proofs.YtcinaflmpdmdaaaW.PrintWords Go.Proofs.YtcinaflmpdmdaaaW.PrintLast Go.Proofs.YtcinaflmpdmdaaaW.PrintMore
attribute [local go_sem] max2_int min2_int max_two min_two max_three min_three max_four min_four   -- for this text's walks alone
set_option linter.unusedVariables false
set_option linter.unusedSimpArgs false

/-! ### impl_cells: function 59 -/
def impl_cells.f (l0 : List Int) : Option (List S46) := spec_l1Cells.f l0
theorem impl_cells.calls (A0 : Option Addr) (c0 : Nat) (l0 : List Int) (r : List (S46)) (w : World) (hr0 : Kd.C (Kd.int .u8) w A0 l0.length l0) (hc0 : l0.length ≤ c0) (h : impl_cells.f l0 = some r) :
    Calls Try.prog 59 #[.slice A0 l0.length c0] w fun e w' => ∃ v0_ : Value, e = .returned (v0_) ∧ Kd.R k46 46 w' w.heap.size (fun _ => True) v0_ r ∧ Below w.heap.size w w' := by
  unfold impl_cells.f spec_l1Cells.f at h
  split at h
  · rename_i hok
    obtain rfl := Option.some.inj h
    exact M.cells_c A0 l0.length c0 l0 w rfl (M.row_ints hr0) (M.lineOk_byt hok) hc0 (M.lineOk_len hok) _ (fun A' c' w' ho _ _ hb => ⟨_, rfl, cellsS_R ho, hb⟩)
  · cases h

end Go.Proofs.Ytcinaflmpdmdaaa.Q
end
section
namespace Go.Proofs.Ytcinaflmpdmdaaa.Q
open Go.RowKit Go.Proofs.YtcinaflmpdmdaaaW.PrintWords Go.Proofs.YtcinaflmpdmdaaaW.PrintLast Go.Proofs.YtcinaflmpdmdaaaW.PrintMore
attribute [local go_sem] max2_int min2_int max_two min_two max_three min_three max_four min_four   -- for this text's walks alone
set_option linter.unusedVariables false
set_option linter.unusedSimpArgs false

/-! ### impl_rowCount: function 63 -/
def impl_rowCount.f (l0 : List Int) (a1_0 : Int) (a1_1 : Bool) (a1_2 : Int) : Option (Int) := (impl_cells.f l0).bind fun t102 => (if a1_1 = true then (some 1) else (if (t102.length : Int) = 0 then (some 1) else (if a1_0 = 0 then (none) else (some (wrap64 (Int.tdiv (wrap64 ((wrap64 ((t102.length : Int) + a1_0)) - 1)) a1_0))))))
set_option maxHeartbeats 8000000 in
set_option maxRecDepth 100000 in
theorem impl_rowCount.calls (A0 : Option Addr) (c0 : Nat) (l0 : List Int) (a1_0 : Int) (a1_1 : Bool) (a1_2 : Int) (r : Int) (w : World) (hr0 : Kd.C (Kd.int .u8) w A0 l0.length l0) (hc0 : l0.length ≤ c0) (h : impl_rowCount.f l0 a1_0 a1_1 a1_2 = some r) :
    Calls Try.prog 63 #[.slice A0 l0.length c0, .agg #[.int .i64 a1_0, .bool a1_1, .int .i64 a1_2]] w fun e w' => e = .returned (.int .i64 r) ∧ Below w.heap.size w w' := by
  have hu25 := Try.underlying25
  have HR0 := Aside0.mk hr0
  have HC0 := Aside0.mk hc0
  clear hr0 hc0
  have HB := Aside0.mk (Below.refl w.heap.size w)
  have H : ((impl_cells.f l0).bind fun t102 => (if a1_1 = true then (some 1) else (if (t102.length : Int) = 0 then (some 1) else (if a1_0 = 0 then (none) else (some (wrap64 (Int.tdiv (wrap64 ((wrap64 ((t102.length : Int) + a1_0)) - 1)) a1_0))))))) = some r := h
  clear h
  replace H := Option.bind_eq_some_iff.mp H
  obtain ⟨t102, A30, H⟩ := H
  replace H : (if a1_1 = true then (some 1) else (if (t102.length : Int) = 0 then (some 1) else (if a1_0 = 0 then (none) else (some (wrap64 (Int.tdiv (wrap64 ((wrap64 ((t102.length : Int) + a1_0)) - 1)) a1_0)))))) = some r := H
  have A3 := Aside0.mk A30
  clear A30
  by_cases c4 : a1_1 = true
  · subst c4
    have H1 : (some 1) = some r := by rw [if_pos rfl] at H; exact H
    clear H
    have H := H1
    clear H1
    obtain rfl := Option.some.inj H
    go_enter Try.func63, Try.ntmps63
    go_wp2_with (first | ((with_reducible refine gate_dst (N := 3) rfl ?_); refine box_event ?hg (N := 3) ?hd (cs := #[.int .i64 a1_0, .bool true, .int .i64 a1_2]) (t := 25) ?hr ?_; (case hd => rfl); (case hg => rfl); (case hr => first | (go_simp; done) | (go_simp; rfl)); intro gb101 hg w5 hbox hb; have n0_ := Aside0.mk (below_step (by repeat (first | (with_reducible first | exact HB.out | apply below_alloc | apply pw_below_drewN | apply below_drew1) | exact HB.out)) hb); have n1_ := Aside0.mk (hbox); have n2_ := Aside0.mk ((by rw [hg]; exact (below_size (by repeat (first | (with_reducible first | exact HB.out | apply below_alloc | apply pw_below_drewN | apply below_drew1) | exact HB.out))) : w.heap.size ≤ gb101)); have n3_ := Aside0.mk ((by rw [hg]; exact (below_size (by repeat (first | (with_reducible first | exact HB.out | apply below_alloc | apply pw_below_drewN | apply below_drew1) | exact HB.out))) : w.heap.size ≤ gb101)); clear HB; have HB := n0_; have BK101 := n1_; have GW101 := n2_; have GE101 := n3_; clear n0_ n1_ n2_ n3_; clear hb hbox hg) | ((with_reducible refine gate_callee (f := 59) rfl ?_); refine goesL_ (some 7) rfl rfl Try.func59 (by kernel_rfl) rfl #[.slice A0 l0.length c0] rfl (by (try simp only [List.map_toArray, List.map_cons, List.map_nil]); first | done | rfl | (simp only [List.length_drop, List.length_take]; rfl)) ?_; (with_reducible refine (impl_cells.calls _ _ l0 t102 _ ?side1 ?side2 A3.out).mono ?_); (case side1 => repeat (first | exact (Kd.C_below HR0.out HB.out) | (with_reducible refine Kd.C_alloc ?_ _) | (with_reducible refine Kd.C_drewN ?_ _) | (with_reducible refine Kd.C_drew ?_))); (case side2 => exact HC0.out); rintro e w6 ⟨v103, rfl, ho0, hb⟩; refine ⟨_, rfl, ?_⟩; have n0_ := Aside0.mk (Kd.R_lower ho0 (below_size (by repeat (first | (with_reducible first | exact HB.out | apply below_alloc | apply pw_below_drewN | apply below_drew1 | refine below_set ?_ GE101.out) | exact HB.out)))); have n1_ := Aside0.mk (blk_below (g := gb101) (o := .cells #[.int .i64 a1_0, .bool true, .int .i64 a1_2] 25 (0, 0)) (by (with_reducible repeat (first | refine blk_drewN ?_ _ | refine blk_drew ?_ | refine blk_alloc ?_ _)); exact BK101.out) hb); have n2_ := Aside0.mk (below_step (by repeat (first | (with_reducible first | exact HB.out | apply below_alloc | apply pw_below_drewN | apply below_drew1 | refine below_set ?_ GE101.out) | exact HB.out)) hb); clear BK101; clear HB; have HO104 := n0_; have BK101 := n1_; have HB := n2_; clear n0_ n1_ n2_; (try clear hb); (try clear hb2); (try clear hk); (try clear hi); (try clear ho0); obtain ⟨Ao7, co7, eo7⟩ := Kd.R_slice HO104.out; subst eo7; have hcz8_0 : w6.cell? ⟨gb101, 0, none⟩ = some (.int .i64 a1_0) := (blk_cell BK101.out 0).trans rfl; have hcz8_1 : w6.cell? ⟨gb101, 1, none⟩ = some (.bool true) := (blk_cell BK101.out 1).trans rfl; have hcz8_2 : w6.cell? ⟨gb101, 2, none⟩ = some (.int .i64 a1_2) := (blk_cell BK101.out 2).trans rfl; have hfz8_0 := blk_frozen BK101.out 0; have hfz8_1 := blk_frozen BK101.out 1; have hfz8_2 := blk_frozen BK101.out 2))
    go_ret
    exact ⟨by first | rfl | (simp [errW_none, errW_some] <;> rfl) | (simp [*, errW_none, errW_some] <;> rfl), by repeat (first | (with_reducible first | exact HB.out | apply below_alloc | apply pw_below_drewN | apply below_drew1 | refine below_set ?_ GE101.out) | exact HB.out)⟩
  · replace c4 := Bool.eq_false_iff.mpr c4
    subst c4
    have H1 : (if (t102.length : Int) = 0 then (some 1) else (if a1_0 = 0 then (none) else (some (wrap64 (Int.tdiv (wrap64 ((wrap64 ((t102.length : Int) + a1_0)) - 1)) a1_0))))) = some r := by rw [if_neg (show ¬ (false = true) by decide)] at H; exact H
    clear H
    have H := H1
    clear H1
    by_cases c9 : (t102.length : Int) = 0
    · rw [if_pos c9] at H
      have c9b0 : ((t102.length : Int) == 0) = true := beq_iff_eq.mpr c9
      have c9b1 : ((t102.length : Int) != 0) = false := bne_eq_false_iff_eq.mpr c9
      clear c9
      obtain rfl := Option.some.inj H
      go_enter Try.func63, Try.ntmps63
      go_wp2_with (first | ((with_reducible refine gate_dst (N := 3) rfl ?_); refine box_event ?hg (N := 3) ?hd (cs := #[.int .i64 a1_0, .bool false, .int .i64 a1_2]) (t := 25) ?hr ?_; (case hd => rfl); (case hg => rfl); (case hr => first | (go_simp; done) | (go_simp; rfl)); intro gb101 hg w10 hbox hb; have n0_ := Aside0.mk (below_step (by repeat (first | (with_reducible first | exact HB.out | apply below_alloc | apply pw_below_drewN | apply below_drew1) | exact HB.out)) hb); have n1_ := Aside0.mk (hbox); have n2_ := Aside0.mk ((by rw [hg]; exact (below_size (by repeat (first | (with_reducible first | exact HB.out | apply below_alloc | apply pw_below_drewN | apply below_drew1) | exact HB.out))) : w.heap.size ≤ gb101)); have n3_ := Aside0.mk ((by rw [hg]; exact (below_size (by repeat (first | (with_reducible first | exact HB.out | apply below_alloc | apply pw_below_drewN | apply below_drew1) | exact HB.out))) : w.heap.size ≤ gb101)); clear HB; have HB := n0_; have BK101 := n1_; have GW101 := n2_; have GE101 := n3_; clear n0_ n1_ n2_ n3_; clear hb hbox hg) | ((with_reducible refine gate_callee (f := 59) rfl ?_); refine goesL_ (some 7) rfl rfl Try.func59 (by kernel_rfl) rfl #[.slice A0 l0.length c0] rfl (by (try simp only [List.map_toArray, List.map_cons, List.map_nil]); first | done | rfl | (simp only [List.length_drop, List.length_take]; rfl)) ?_; (with_reducible refine (impl_cells.calls _ _ l0 t102 _ ?side1 ?side2 A3.out).mono ?_); (case side1 => repeat (first | exact (Kd.C_below HR0.out HB.out) | (with_reducible refine Kd.C_alloc ?_ _) | (with_reducible refine Kd.C_drewN ?_ _) | (with_reducible refine Kd.C_drew ?_))); (case side2 => exact HC0.out); rintro e w11 ⟨v103, rfl, ho0, hb⟩; refine ⟨_, rfl, ?_⟩; have n0_ := Aside0.mk (Kd.R_lower ho0 (below_size (by repeat (first | (with_reducible first | exact HB.out | apply below_alloc | apply pw_below_drewN | apply below_drew1 | refine below_set ?_ GE101.out) | exact HB.out)))); have n1_ := Aside0.mk (blk_below (g := gb101) (o := .cells #[.int .i64 a1_0, .bool false, .int .i64 a1_2] 25 (0, 0)) (by (with_reducible repeat (first | refine blk_drewN ?_ _ | refine blk_drew ?_ | refine blk_alloc ?_ _)); exact BK101.out) hb); have n2_ := Aside0.mk (below_step (by repeat (first | (with_reducible first | exact HB.out | apply below_alloc | apply pw_below_drewN | apply below_drew1 | refine below_set ?_ GE101.out) | exact HB.out)) hb); clear BK101; clear HB; have HO104 := n0_; have BK101 := n1_; have HB := n2_; clear n0_ n1_ n2_; (try clear hb); (try clear hb2); (try clear hk); (try clear hi); (try clear ho0); obtain ⟨Ao12, co12, eo12⟩ := Kd.R_slice HO104.out; subst eo12; have hcz13_0 : w11.cell? ⟨gb101, 0, none⟩ = some (.int .i64 a1_0) := (blk_cell BK101.out 0).trans rfl; have hcz13_1 : w11.cell? ⟨gb101, 1, none⟩ = some (.bool false) := (blk_cell BK101.out 1).trans rfl; have hcz13_2 : w11.cell? ⟨gb101, 2, none⟩ = some (.int .i64 a1_2) := (blk_cell BK101.out 2).trans rfl; have hfz13_0 := blk_frozen BK101.out 0; have hfz13_1 := blk_frozen BK101.out 1; have hfz13_2 := blk_frozen BK101.out 2))
      go_ret
      exact ⟨by first | rfl | (simp [errW_none, errW_some] <;> rfl) | (simp [*, errW_none, errW_some] <;> rfl), by repeat (first | (with_reducible first | exact HB.out | apply below_alloc | apply pw_below_drewN | apply below_drew1 | refine below_set ?_ GE101.out) | exact HB.out)⟩
    · rw [if_neg c9] at H
      have c9b0 : ((t102.length : Int) == 0) = false := beq_eq_false_iff_ne.mpr c9
      have c9b1 : ((t102.length : Int) != 0) = true := bne_iff_ne.mpr c9
      have c9b2 : ¬ (t102 = []) := fun h_ => c9 (by rw [h_]; rfl)
      by_cases c14 : a1_0 = 0
      · rw [if_pos c14] at H
        exact absurd H (by simp)
      · rw [if_neg c14] at H
        have c14b0 : (a1_0 == 0) = false := beq_eq_false_iff_ne.mpr c14
        have c14b1 : (a1_0 != 0) = true := bne_iff_ne.mpr c14
        obtain rfl := Option.some.inj H
        go_enter Try.func63, Try.ntmps63
        go_wp2_with (first | ((with_reducible refine gate_dst (N := 3) rfl ?_); refine box_event ?hg (N := 3) ?hd (cs := #[.int .i64 a1_0, .bool false, .int .i64 a1_2]) (t := 25) ?hr ?_; (case hd => rfl); (case hg => rfl); (case hr => first | (go_simp; done) | (go_simp; rfl)); intro gb101 hg w15 hbox hb; have n0_ := Aside0.mk (below_step (by repeat (first | (with_reducible first | exact HB.out | apply below_alloc | apply pw_below_drewN | apply below_drew1) | exact HB.out)) hb); have n1_ := Aside0.mk (hbox); have n2_ := Aside0.mk ((by rw [hg]; exact (below_size (by repeat (first | (with_reducible first | exact HB.out | apply below_alloc | apply pw_below_drewN | apply below_drew1) | exact HB.out))) : w.heap.size ≤ gb101)); have n3_ := Aside0.mk ((by rw [hg]; exact (below_size (by repeat (first | (with_reducible first | exact HB.out | apply below_alloc | apply pw_below_drewN | apply below_drew1) | exact HB.out))) : w.heap.size ≤ gb101)); clear HB; have HB := n0_; have BK101 := n1_; have GW101 := n2_; have GE101 := n3_; clear n0_ n1_ n2_ n3_; clear hb hbox hg) | ((with_reducible refine gate_callee (f := 59) rfl ?_); refine goesL_ (some 7) rfl rfl Try.func59 (by kernel_rfl) rfl #[.slice A0 l0.length c0] rfl (by (try simp only [List.map_toArray, List.map_cons, List.map_nil]); first | done | rfl | (simp only [List.length_drop, List.length_take]; rfl)) ?_; (with_reducible refine (impl_cells.calls _ _ l0 t102 _ ?side1 ?side2 A3.out).mono ?_); (case side1 => repeat (first | exact (Kd.C_below HR0.out HB.out) | (with_reducible refine Kd.C_alloc ?_ _) | (with_reducible refine Kd.C_drewN ?_ _) | (with_reducible refine Kd.C_drew ?_))); (case side2 => exact HC0.out); rintro e w16 ⟨v103, rfl, ho0, hb⟩; refine ⟨_, rfl, ?_⟩; have n0_ := Aside0.mk (Kd.R_lower ho0 (below_size (by repeat (first | (with_reducible first | exact HB.out | apply below_alloc | apply pw_below_drewN | apply below_drew1 | refine below_set ?_ GE101.out) | exact HB.out)))); have n1_ := Aside0.mk (blk_below (g := gb101) (o := .cells #[.int .i64 a1_0, .bool false, .int .i64 a1_2] 25 (0, 0)) (by (with_reducible repeat (first | refine blk_drewN ?_ _ | refine blk_drew ?_ | refine blk_alloc ?_ _)); exact BK101.out) hb); have n2_ := Aside0.mk (below_step (by repeat (first | (with_reducible first | exact HB.out | apply below_alloc | apply pw_below_drewN | apply below_drew1 | refine below_set ?_ GE101.out) | exact HB.out)) hb); clear BK101; clear HB; have HO104 := n0_; have BK101 := n1_; have HB := n2_; clear n0_ n1_ n2_; (try clear hb); (try clear hb2); (try clear hk); (try clear hi); (try clear ho0); obtain ⟨Ao17, co17, eo17⟩ := Kd.R_slice HO104.out; subst eo17; have hcz18_0 : w16.cell? ⟨gb101, 0, none⟩ = some (.int .i64 a1_0) := (blk_cell BK101.out 0).trans rfl; have hcz18_1 : w16.cell? ⟨gb101, 1, none⟩ = some (.bool false) := (blk_cell BK101.out 1).trans rfl; have hcz18_2 : w16.cell? ⟨gb101, 2, none⟩ = some (.int .i64 a1_2) := (blk_cell BK101.out 2).trans rfl; have hfz18_0 := blk_frozen BK101.out 0; have hfz18_1 := blk_frozen BK101.out 1; have hfz18_2 := blk_frozen BK101.out 2))
        go_ret
        exact ⟨by first | rfl | (simp [errW_none, errW_some] <;> rfl) | (simp [*, errW_none, errW_some] <;> rfl), by repeat (first | (with_reducible first | exact HB.out | apply below_alloc | apply pw_below_drewN | apply below_drew1 | refine below_set ?_ GE101.out) | exact HB.out)⟩

end Go.Proofs.Ytcinaflmpdmdaaa.Q
end
section
namespace Go.Proofs.Ytcinaflmpdmdaaa.Q
open Go.RowKit Go.Proofs.YtcinaflmpdmdaaaW.PrintWords Go.Proofs.YtcinaflmpdmdaaaW.PrintLast Go.Proofs.YtcinaflmpdmdaaaW.PrintMore
attribute [local go_sem] max2_int min2_int max_two min_two max_three min_three max_four min_four   -- for this text's walks alone
set_option linter.unusedVariables false
set_option linter.unusedSimpArgs false

/-! ### spec_l10Count: function 61 -/
def spec_l10Count.f (l0 : List Int) (s1_0 : Int) (s1_1 : Bool) (s1_2 : Int) : Option (Int × Int × Bool × Int) := (spec_l1Cells.f l0).bind fun t101 => (if s1_1 = true then (some (1, s1_0, s1_1, s1_2)) else (if (t101.length : Int) = 0 then (some (1, s1_0, s1_1, s1_2)) else (if s1_0 = 0 then (none) else (some (wrap64 (Int.tdiv (wrap64 ((wrap64 ((t101.length : Int) + s1_0)) - 1)) s1_0), s1_0, s1_1, s1_2)))))
set_option maxHeartbeats 8000000 in
set_option maxRecDepth 100000 in
theorem spec_l10Count.calls (A0 : Option Addr) (c0 : Nat) (l0 : List Int) (g : Nat) (s1_0 : Int) (s1_1 : Bool) (s1_2 : Int) (r1 : Int) (r2 : Int) (r3 : Bool) (r4 : Int) (w0 w : World) (hI : IsS25 w0 w g s1_0 s1_1 s1_2) (hB : Below w0.heap.size w0 w) (hr0 : Kd.C (Kd.int .u8) w A0 l0.length l0) (hc0 : l0.length ≤ c0) (hf0 : ∀ ad, A0 = some ad → 0 < l0.length → ad.block ≠ g) (h : spec_l10Count.f l0 s1_0 s1_1 s1_2 = some (r1, r2, r3, r4)) :
    Calls Try.prog 61 #[.slice A0 l0.length c0, .pointer (some ⟨g, 0, none⟩)] w fun e w' => e = .returned (.int .i64 r1) ∧ IsS25 w0 w' g r2 r3 r4 ∧ Below w0.heap.size w0 w' ∧ KeepBut w w' g none := by
  have HR0 := Aside0.mk hr0
  have HC0 := Aside0.mk hc0
  clear hr0 hc0
  have HI1 := Aside0.mk hI
  have HK := Aside0.mk (KeepBut.refl w g none)
  have HL := Aside0.mk hB.size
  clear hI
  have HW0 := Aside0.mk hB.size
  have HB := Aside0.mk hB
  clear hB
  have H : ((spec_l1Cells.f l0).bind fun t101 => (if s1_1 = true then (some (1, s1_0, s1_1, s1_2)) else (if (t101.length : Int) = 0 then (some (1, s1_0, s1_1, s1_2)) else (if s1_0 = 0 then (none) else (some (wrap64 (Int.tdiv (wrap64 ((wrap64 ((t101.length : Int) + s1_0)) - 1)) s1_0), s1_0, s1_1, s1_2)))))) = some (r1, r2, r3, r4) := h
  clear h
  replace H := Option.bind_eq_some_iff.mp H
  obtain ⟨t101, A30, H⟩ := H
  replace H : (if s1_1 = true then (some (1, s1_0, s1_1, s1_2)) else (if (t101.length : Int) = 0 then (some (1, s1_0, s1_1, s1_2)) else (if s1_0 = 0 then (none) else (some (wrap64 (Int.tdiv (wrap64 ((wrap64 ((t101.length : Int) + s1_0)) - 1)) s1_0), s1_0, s1_1, s1_2))))) = some (r1, r2, r3, r4) := H
  have A3 := Aside0.mk A30
  clear A30
  by_cases c4 : s1_1 = true
  · subst c4
    have H1 : (some (1, s1_0, true, s1_2)) = some (r1, r2, r3, r4) := by rw [if_pos rfl] at H; exact H
    clear H
    have H := H1
    clear H1
    simp only [Option.some.injEq, Prod.mk.injEq] at H
    obtain ⟨rfl, rfl, rfl, rfl⟩ := H
    go_enter Try.func61, Try.ntmps61
    go_wp2_with (first | (go_at_call 57; (with_reducible refine (spec_l1Cells.calls _ _ l0 t101 _ ?side1 ?side2 A3.out).mono ?_); (case side1 => exact Kd.C_keep 0 HR0.out (by repeat (first | (with_reducible first | exact HK.out | apply KeepBut.set_ | apply keep_drewN | apply keep_drew | apply keep_alloc) | exact HK.out)) hf0); (case side2 => exact HC0.out); rintro e w5 ⟨v102, rfl, ho0, hb⟩; have n0_ := Aside0.mk (Kd.R_lower ho0 (keep_size (w := w) (g := g) (row := none) (by repeat (first | (with_reducible first | exact HK.out | apply KeepBut.set_ | apply keep_drewN | apply keep_drew | apply keep_alloc) | exact HK.out)))); have n1_ := Aside0.mk (IsS25.below (by repeat (first | (with_reducible first | exact HI1.out | apply IsS25.alloc | apply IsS25.drewN | apply IsS25.drew | apply IsS25.set_0 | apply IsS25.set_1 | apply IsS25.set_2) | exact HI1.out)) hb); have n2_ := Aside0.mk (KeepBut.trans (by repeat (first | (with_reducible first | exact HK.out | apply KeepBut.set_ | apply keep_drewN | apply keep_drew | apply keep_alloc) | exact HK.out)) (KeepBut.of_below hb g none) (.inl rfl)); have n3_ := Aside0.mk (below_step (by repeat (first | (with_reducible first | exact HB.out | apply below_alloc | apply pw_below_drewN | apply below_drew1 | refine below_set ?_ (IsS25.ge HI1.out)) | exact HB.out)) hb); clear HI1; clear HK; clear HB; have HO103 := n0_; have HI1 := n1_; have HK := n2_; have HB := n3_; clear n0_ n1_ n2_ n3_; (try clear hb); (try clear hb2); (try clear hk); (try clear hi); (try clear ho0); obtain ⟨Ao6, co6, eo6⟩ := Kd.R_slice HO103.out; subst eo6; obtain ⟨HGz7, hgz7⟩ := HI1.out; have hcz7_0 := cellS25_0 HGz7; have hcz7_1 := cellS25_1 HGz7; have hcz7_2 := cellS25_2 HGz7; have hfz7_0 := blk_frozen HGz7 0; have hfz7_1 := blk_frozen HGz7 1; have hfz7_2 := blk_frozen HGz7 2; clear HGz7 hgz7))
    repeat (go_quiet (first | (go_at_call 57; (with_reducible refine (spec_l1Cells.calls _ _ l0 t101 _ ?side1 ?side2 A3.out).mono ?_); (case side1 => exact Kd.C_keep 0 HR0.out (by repeat (first | (with_reducible first | exact HK.out | apply KeepBut.set_ | apply keep_drewN | apply keep_drew | apply keep_alloc) | exact HK.out)) hf0); (case side2 => exact HC0.out); rintro e w5 ⟨v102, rfl, ho0, hb⟩; have n0_ := Aside0.mk (Kd.R_lower ho0 (keep_size (w := w) (g := g) (row := none) (by repeat (first | (with_reducible first | exact HK.out | apply KeepBut.set_ | apply keep_drewN | apply keep_drew | apply keep_alloc) | exact HK.out)))); have n1_ := Aside0.mk (IsS25.below (by repeat (first | (with_reducible first | exact HI1.out | apply IsS25.alloc | apply IsS25.drewN | apply IsS25.drew | apply IsS25.set_0 | apply IsS25.set_1 | apply IsS25.set_2) | exact HI1.out)) hb); have n2_ := Aside0.mk (KeepBut.trans (by repeat (first | (with_reducible first | exact HK.out | apply KeepBut.set_ | apply keep_drewN | apply keep_drew | apply keep_alloc) | exact HK.out)) (KeepBut.of_below hb g none) (.inl rfl)); have n3_ := Aside0.mk (below_step (by repeat (first | (with_reducible first | exact HB.out | apply below_alloc | apply pw_below_drewN | apply below_drew1 | refine below_set ?_ (IsS25.ge HI1.out)) | exact HB.out)) hb); clear HI1; clear HK; clear HB; have HO103 := n0_; have HI1 := n1_; have HK := n2_; have HB := n3_; clear n0_ n1_ n2_ n3_; (try clear hb); (try clear hb2); (try clear hk); (try clear hi); (try clear ho0); obtain ⟨Ao6, co6, eo6⟩ := Kd.R_slice HO103.out; subst eo6; obtain ⟨HGz7, hgz7⟩ := HI1.out; have hcz7_0 := cellS25_0 HGz7; have hcz7_1 := cellS25_1 HGz7; have hcz7_2 := cellS25_2 HGz7; have hfz7_0 := blk_frozen HGz7 0; have hfz7_1 := blk_frozen HGz7 1; have hfz7_2 := blk_frozen HGz7 2; clear HGz7 hgz7)); try go_wp2_with (first | (go_at_call 57; (with_reducible refine (spec_l1Cells.calls _ _ l0 t101 _ ?side1 ?side2 A3.out).mono ?_); (case side1 => exact Kd.C_keep 0 HR0.out (by repeat (first | (with_reducible first | exact HK.out | apply KeepBut.set_ | apply keep_drewN | apply keep_drew | apply keep_alloc) | exact HK.out)) hf0); (case side2 => exact HC0.out); rintro e w5 ⟨v102, rfl, ho0, hb⟩; have n0_ := Aside0.mk (Kd.R_lower ho0 (keep_size (w := w) (g := g) (row := none) (by repeat (first | (with_reducible first | exact HK.out | apply KeepBut.set_ | apply keep_drewN | apply keep_drew | apply keep_alloc) | exact HK.out)))); have n1_ := Aside0.mk (IsS25.below (by repeat (first | (with_reducible first | exact HI1.out | apply IsS25.alloc | apply IsS25.drewN | apply IsS25.drew | apply IsS25.set_0 | apply IsS25.set_1 | apply IsS25.set_2) | exact HI1.out)) hb); have n2_ := Aside0.mk (KeepBut.trans (by repeat (first | (with_reducible first | exact HK.out | apply KeepBut.set_ | apply keep_drewN | apply keep_drew | apply keep_alloc) | exact HK.out)) (KeepBut.of_below hb g none) (.inl rfl)); have n3_ := Aside0.mk (below_step (by repeat (first | (with_reducible first | exact HB.out | apply below_alloc | apply pw_below_drewN | apply below_drew1 | refine below_set ?_ (IsS25.ge HI1.out)) | exact HB.out)) hb); clear HI1; clear HK; clear HB; have HO103 := n0_; have HI1 := n1_; have HK := n2_; have HB := n3_; clear n0_ n1_ n2_ n3_; (try clear hb); (try clear hb2); (try clear hk); (try clear hi); (try clear ho0); obtain ⟨Ao6, co6, eo6⟩ := Kd.R_slice HO103.out; subst eo6; obtain ⟨HGz7, hgz7⟩ := HI1.out; have hcz7_0 := cellS25_0 HGz7; have hcz7_1 := cellS25_1 HGz7; have hcz7_2 := cellS25_2 HGz7; have hfz7_0 := blk_frozen HGz7 0; have hfz7_1 := blk_frozen HGz7 1; have hfz7_2 := blk_frozen HGz7 2; clear HGz7 hgz7)))
    go_ret
    exact ⟨by first | rfl | (simp [errW_none, errW_some] <;> rfl) | (simp [*, errW_none, errW_some] <;> rfl), by repeat (first | (with_reducible first | exact HI1.out | apply IsS25.alloc | apply IsS25.drewN | apply IsS25.drew | apply IsS25.set_0 | apply IsS25.set_1 | apply IsS25.set_2) | exact HI1.out), by repeat (first | (with_reducible first | exact HB.out | apply below_alloc | apply pw_below_drewN | apply below_drew1 | refine below_set ?_ (IsS25.ge HI1.out)) | exact HB.out), by repeat (first | (with_reducible first | exact HK.out | apply KeepBut.set_ | apply keep_drewN | apply keep_drew | apply keep_alloc) | exact HK.out)⟩
  · replace c4 := Bool.eq_false_iff.mpr c4
    subst c4
    have H1 : (if (t101.length : Int) = 0 then (some (1, s1_0, false, s1_2)) else (if s1_0 = 0 then (none) else (some (wrap64 (Int.tdiv (wrap64 ((wrap64 ((t101.length : Int) + s1_0)) - 1)) s1_0), s1_0, false, s1_2)))) = some (r1, r2, r3, r4) := by rw [if_neg (show ¬ (false = true) by decide)] at H; exact H
    clear H
    have H := H1
    clear H1
    by_cases c8 : (t101.length : Int) = 0
    · rw [if_pos c8] at H
      have c8b0 : ((t101.length : Int) == 0) = true := beq_iff_eq.mpr c8
      have c8b1 : ((t101.length : Int) != 0) = false := bne_eq_false_iff_eq.mpr c8
      clear c8
      simp only [Option.some.injEq, Prod.mk.injEq] at H
      obtain ⟨rfl, rfl, rfl, rfl⟩ := H
      go_enter Try.func61, Try.ntmps61
      go_wp2_with (first | (go_at_call 57; (with_reducible refine (spec_l1Cells.calls _ _ l0 t101 _ ?side1 ?side2 A3.out).mono ?_); (case side1 => exact Kd.C_keep 0 HR0.out (by repeat (first | (with_reducible first | exact HK.out | apply KeepBut.set_ | apply keep_drewN | apply keep_drew | apply keep_alloc) | exact HK.out)) hf0); (case side2 => exact HC0.out); rintro e w9 ⟨v102, rfl, ho0, hb⟩; have n0_ := Aside0.mk (Kd.R_lower ho0 (keep_size (w := w) (g := g) (row := none) (by repeat (first | (with_reducible first | exact HK.out | apply KeepBut.set_ | apply keep_drewN | apply keep_drew | apply keep_alloc) | exact HK.out)))); have n1_ := Aside0.mk (IsS25.below (by repeat (first | (with_reducible first | exact HI1.out | apply IsS25.alloc | apply IsS25.drewN | apply IsS25.drew | apply IsS25.set_0 | apply IsS25.set_1 | apply IsS25.set_2) | exact HI1.out)) hb); have n2_ := Aside0.mk (KeepBut.trans (by repeat (first | (with_reducible first | exact HK.out | apply KeepBut.set_ | apply keep_drewN | apply keep_drew | apply keep_alloc) | exact HK.out)) (KeepBut.of_below hb g none) (.inl rfl)); have n3_ := Aside0.mk (below_step (by repeat (first | (with_reducible first | exact HB.out | apply below_alloc | apply pw_below_drewN | apply below_drew1 | refine below_set ?_ (IsS25.ge HI1.out)) | exact HB.out)) hb); clear HI1; clear HK; clear HB; have HO103 := n0_; have HI1 := n1_; have HK := n2_; have HB := n3_; clear n0_ n1_ n2_ n3_; (try clear hb); (try clear hb2); (try clear hk); (try clear hi); (try clear ho0); obtain ⟨Ao10, co10, eo10⟩ := Kd.R_slice HO103.out; subst eo10; obtain ⟨HGz11, hgz11⟩ := HI1.out; have hcz11_0 := cellS25_0 HGz11; have hcz11_1 := cellS25_1 HGz11; have hcz11_2 := cellS25_2 HGz11; have hfz11_0 := blk_frozen HGz11 0; have hfz11_1 := blk_frozen HGz11 1; have hfz11_2 := blk_frozen HGz11 2; clear HGz11 hgz11))
      repeat (go_quiet (first | (go_at_call 57; (with_reducible refine (spec_l1Cells.calls _ _ l0 t101 _ ?side1 ?side2 A3.out).mono ?_); (case side1 => exact Kd.C_keep 0 HR0.out (by repeat (first | (with_reducible first | exact HK.out | apply KeepBut.set_ | apply keep_drewN | apply keep_drew | apply keep_alloc) | exact HK.out)) hf0); (case side2 => exact HC0.out); rintro e w9 ⟨v102, rfl, ho0, hb⟩; have n0_ := Aside0.mk (Kd.R_lower ho0 (keep_size (w := w) (g := g) (row := none) (by repeat (first | (with_reducible first | exact HK.out | apply KeepBut.set_ | apply keep_drewN | apply keep_drew | apply keep_alloc) | exact HK.out)))); have n1_ := Aside0.mk (IsS25.below (by repeat (first | (with_reducible first | exact HI1.out | apply IsS25.alloc | apply IsS25.drewN | apply IsS25.drew | apply IsS25.set_0 | apply IsS25.set_1 | apply IsS25.set_2) | exact HI1.out)) hb); have n2_ := Aside0.mk (KeepBut.trans (by repeat (first | (with_reducible first | exact HK.out | apply KeepBut.set_ | apply keep_drewN | apply keep_drew | apply keep_alloc) | exact HK.out)) (KeepBut.of_below hb g none) (.inl rfl)); have n3_ := Aside0.mk (below_step (by repeat (first | (with_reducible first | exact HB.out | apply below_alloc | apply pw_below_drewN | apply below_drew1 | refine below_set ?_ (IsS25.ge HI1.out)) | exact HB.out)) hb); clear HI1; clear HK; clear HB; have HO103 := n0_; have HI1 := n1_; have HK := n2_; have HB := n3_; clear n0_ n1_ n2_ n3_; (try clear hb); (try clear hb2); (try clear hk); (try clear hi); (try clear ho0); obtain ⟨Ao10, co10, eo10⟩ := Kd.R_slice HO103.out; subst eo10; obtain ⟨HGz11, hgz11⟩ := HI1.out; have hcz11_0 := cellS25_0 HGz11; have hcz11_1 := cellS25_1 HGz11; have hcz11_2 := cellS25_2 HGz11; have hfz11_0 := blk_frozen HGz11 0; have hfz11_1 := blk_frozen HGz11 1; have hfz11_2 := blk_frozen HGz11 2; clear HGz11 hgz11)); try go_wp2_with (first | (go_at_call 57; (with_reducible refine (spec_l1Cells.calls _ _ l0 t101 _ ?side1 ?side2 A3.out).mono ?_); (case side1 => exact Kd.C_keep 0 HR0.out (by repeat (first | (with_reducible first | exact HK.out | apply KeepBut.set_ | apply keep_drewN | apply keep_drew | apply keep_alloc) | exact HK.out)) hf0); (case side2 => exact HC0.out); rintro e w9 ⟨v102, rfl, ho0, hb⟩; have n0_ := Aside0.mk (Kd.R_lower ho0 (keep_size (w := w) (g := g) (row := none) (by repeat (first | (with_reducible first | exact HK.out | apply KeepBut.set_ | apply keep_drewN | apply keep_drew | apply keep_alloc) | exact HK.out)))); have n1_ := Aside0.mk (IsS25.below (by repeat (first | (with_reducible first | exact HI1.out | apply IsS25.alloc | apply IsS25.drewN | apply IsS25.drew | apply IsS25.set_0 | apply IsS25.set_1 | apply IsS25.set_2) | exact HI1.out)) hb); have n2_ := Aside0.mk (KeepBut.trans (by repeat (first | (with_reducible first | exact HK.out | apply KeepBut.set_ | apply keep_drewN | apply keep_drew | apply keep_alloc) | exact HK.out)) (KeepBut.of_below hb g none) (.inl rfl)); have n3_ := Aside0.mk (below_step (by repeat (first | (with_reducible first | exact HB.out | apply below_alloc | apply pw_below_drewN | apply below_drew1 | refine below_set ?_ (IsS25.ge HI1.out)) | exact HB.out)) hb); clear HI1; clear HK; clear HB; have HO103 := n0_; have HI1 := n1_; have HK := n2_; have HB := n3_; clear n0_ n1_ n2_ n3_; (try clear hb); (try clear hb2); (try clear hk); (try clear hi); (try clear ho0); obtain ⟨Ao10, co10, eo10⟩ := Kd.R_slice HO103.out; subst eo10; obtain ⟨HGz11, hgz11⟩ := HI1.out; have hcz11_0 := cellS25_0 HGz11; have hcz11_1 := cellS25_1 HGz11; have hcz11_2 := cellS25_2 HGz11; have hfz11_0 := blk_frozen HGz11 0; have hfz11_1 := blk_frozen HGz11 1; have hfz11_2 := blk_frozen HGz11 2; clear HGz11 hgz11)))
      go_ret
      exact ⟨by first | rfl | (simp [errW_none, errW_some] <;> rfl) | (simp [*, errW_none, errW_some] <;> rfl), by repeat (first | (with_reducible first | exact HI1.out | apply IsS25.alloc | apply IsS25.drewN | apply IsS25.drew | apply IsS25.set_0 | apply IsS25.set_1 | apply IsS25.set_2) | exact HI1.out), by repeat (first | (with_reducible first | exact HB.out | apply below_alloc | apply pw_below_drewN | apply below_drew1 | refine below_set ?_ (IsS25.ge HI1.out)) | exact HB.out), by repeat (first | (with_reducible first | exact HK.out | apply KeepBut.set_ | apply keep_drewN | apply keep_drew | apply keep_alloc) | exact HK.out)⟩
    · rw [if_neg c8] at H
      have c8b0 : ((t101.length : Int) == 0) = false := beq_eq_false_iff_ne.mpr c8
      have c8b1 : ((t101.length : Int) != 0) = true := bne_iff_ne.mpr c8
      have c8b2 : ¬ (t101 = []) := fun h_ => c8 (by rw [h_]; rfl)
      by_cases c12 : s1_0 = 0
      · rw [if_pos c12] at H
        exact absurd H (by simp)
      · rw [if_neg c12] at H
        have c12b0 : (s1_0 == 0) = false := beq_eq_false_iff_ne.mpr c12
        have c12b1 : (s1_0 != 0) = true := bne_iff_ne.mpr c12
        simp only [Option.some.injEq, Prod.mk.injEq] at H
        obtain ⟨rfl, rfl, rfl, rfl⟩ := H
        go_enter Try.func61, Try.ntmps61
        go_wp2_with (first | (go_at_call 57; (with_reducible refine (spec_l1Cells.calls _ _ l0 t101 _ ?side1 ?side2 A3.out).mono ?_); (case side1 => exact Kd.C_keep 0 HR0.out (by repeat (first | (with_reducible first | exact HK.out | apply KeepBut.set_ | apply keep_drewN | apply keep_drew | apply keep_alloc) | exact HK.out)) hf0); (case side2 => exact HC0.out); rintro e w13 ⟨v102, rfl, ho0, hb⟩; have n0_ := Aside0.mk (Kd.R_lower ho0 (keep_size (w := w) (g := g) (row := none) (by repeat (first | (with_reducible first | exact HK.out | apply KeepBut.set_ | apply keep_drewN | apply keep_drew | apply keep_alloc) | exact HK.out)))); have n1_ := Aside0.mk (IsS25.below (by repeat (first | (with_reducible first | exact HI1.out | apply IsS25.alloc | apply IsS25.drewN | apply IsS25.drew | apply IsS25.set_0 | apply IsS25.set_1 | apply IsS25.set_2) | exact HI1.out)) hb); have n2_ := Aside0.mk (KeepBut.trans (by repeat (first | (with_reducible first | exact HK.out | apply KeepBut.set_ | apply keep_drewN | apply keep_drew | apply keep_alloc) | exact HK.out)) (KeepBut.of_below hb g none) (.inl rfl)); have n3_ := Aside0.mk (below_step (by repeat (first | (with_reducible first | exact HB.out | apply below_alloc | apply pw_below_drewN | apply below_drew1 | refine below_set ?_ (IsS25.ge HI1.out)) | exact HB.out)) hb); clear HI1; clear HK; clear HB; have HO103 := n0_; have HI1 := n1_; have HK := n2_; have HB := n3_; clear n0_ n1_ n2_ n3_; (try clear hb); (try clear hb2); (try clear hk); (try clear hi); (try clear ho0); obtain ⟨Ao14, co14, eo14⟩ := Kd.R_slice HO103.out; subst eo14; obtain ⟨HGz15, hgz15⟩ := HI1.out; have hcz15_0 := cellS25_0 HGz15; have hcz15_1 := cellS25_1 HGz15; have hcz15_2 := cellS25_2 HGz15; have hfz15_0 := blk_frozen HGz15 0; have hfz15_1 := blk_frozen HGz15 1; have hfz15_2 := blk_frozen HGz15 2; clear HGz15 hgz15))
        repeat (go_quiet (first | (go_at_call 57; (with_reducible refine (spec_l1Cells.calls _ _ l0 t101 _ ?side1 ?side2 A3.out).mono ?_); (case side1 => exact Kd.C_keep 0 HR0.out (by repeat (first | (with_reducible first | exact HK.out | apply KeepBut.set_ | apply keep_drewN | apply keep_drew | apply keep_alloc) | exact HK.out)) hf0); (case side2 => exact HC0.out); rintro e w13 ⟨v102, rfl, ho0, hb⟩; have n0_ := Aside0.mk (Kd.R_lower ho0 (keep_size (w := w) (g := g) (row := none) (by repeat (first | (with_reducible first | exact HK.out | apply KeepBut.set_ | apply keep_drewN | apply keep_drew | apply keep_alloc) | exact HK.out)))); have n1_ := Aside0.mk (IsS25.below (by repeat (first | (with_reducible first | exact HI1.out | apply IsS25.alloc | apply IsS25.drewN | apply IsS25.drew | apply IsS25.set_0 | apply IsS25.set_1 | apply IsS25.set_2) | exact HI1.out)) hb); have n2_ := Aside0.mk (KeepBut.trans (by repeat (first | (with_reducible first | exact HK.out | apply KeepBut.set_ | apply keep_drewN | apply keep_drew | apply keep_alloc) | exact HK.out)) (KeepBut.of_below hb g none) (.inl rfl)); have n3_ := Aside0.mk (below_step (by repeat (first | (with_reducible first | exact HB.out | apply below_alloc | apply pw_below_drewN | apply below_drew1 | refine below_set ?_ (IsS25.ge HI1.out)) | exact HB.out)) hb); clear HI1; clear HK; clear HB; have HO103 := n0_; have HI1 := n1_; have HK := n2_; have HB := n3_; clear n0_ n1_ n2_ n3_; (try clear hb); (try clear hb2); (try clear hk); (try clear hi); (try clear ho0); obtain ⟨Ao14, co14, eo14⟩ := Kd.R_slice HO103.out; subst eo14; obtain ⟨HGz15, hgz15⟩ := HI1.out; have hcz15_0 := cellS25_0 HGz15; have hcz15_1 := cellS25_1 HGz15; have hcz15_2 := cellS25_2 HGz15; have hfz15_0 := blk_frozen HGz15 0; have hfz15_1 := blk_frozen HGz15 1; have hfz15_2 := blk_frozen HGz15 2; clear HGz15 hgz15)); try go_wp2_with (first | (go_at_call 57; (with_reducible refine (spec_l1Cells.calls _ _ l0 t101 _ ?side1 ?side2 A3.out).mono ?_); (case side1 => exact Kd.C_keep 0 HR0.out (by repeat (first | (with_reducible first | exact HK.out | apply KeepBut.set_ | apply keep_drewN | apply keep_drew | apply keep_alloc) | exact HK.out)) hf0); (case side2 => exact HC0.out); rintro e w13 ⟨v102, rfl, ho0, hb⟩; have n0_ := Aside0.mk (Kd.R_lower ho0 (keep_size (w := w) (g := g) (row := none) (by repeat (first | (with_reducible first | exact HK.out | apply KeepBut.set_ | apply keep_drewN | apply keep_drew | apply keep_alloc) | exact HK.out)))); have n1_ := Aside0.mk (IsS25.below (by repeat (first | (with_reducible first | exact HI1.out | apply IsS25.alloc | apply IsS25.drewN | apply IsS25.drew | apply IsS25.set_0 | apply IsS25.set_1 | apply IsS25.set_2) | exact HI1.out)) hb); have n2_ := Aside0.mk (KeepBut.trans (by repeat (first | (with_reducible first | exact HK.out | apply KeepBut.set_ | apply keep_drewN | apply keep_drew | apply keep_alloc) | exact HK.out)) (KeepBut.of_below hb g none) (.inl rfl)); have n3_ := Aside0.mk (below_step (by repeat (first | (with_reducible first | exact HB.out | apply below_alloc | apply pw_below_drewN | apply below_drew1 | refine below_set ?_ (IsS25.ge HI1.out)) | exact HB.out)) hb); clear HI1; clear HK; clear HB; have HO103 := n0_; have HI1 := n1_; have HK := n2_; have HB := n3_; clear n0_ n1_ n2_ n3_; (try clear hb); (try clear hb2); (try clear hk); (try clear hi); (try clear ho0); obtain ⟨Ao14, co14, eo14⟩ := Kd.R_slice HO103.out; subst eo14; obtain ⟨HGz15, hgz15⟩ := HI1.out; have hcz15_0 := cellS25_0 HGz15; have hcz15_1 := cellS25_1 HGz15; have hcz15_2 := cellS25_2 HGz15; have hfz15_0 := blk_frozen HGz15 0; have hfz15_1 := blk_frozen HGz15 1; have hfz15_2 := blk_frozen HGz15 2; clear HGz15 hgz15)))
        go_ret
        exact ⟨by first | rfl | (simp [errW_none, errW_some] <;> rfl) | (simp [*, errW_none, errW_some] <;> rfl), by repeat (first | (with_reducible first | exact HI1.out | apply IsS25.alloc | apply IsS25.drewN | apply IsS25.drew | apply IsS25.set_0 | apply IsS25.set_1 | apply IsS25.set_2) | exact HI1.out), by repeat (first | (with_reducible first | exact HB.out | apply below_alloc | apply pw_below_drewN | apply below_drew1 | refine below_set ?_ (IsS25.ge HI1.out)) | exact HB.out), by repeat (first | (with_reducible first | exact HK.out | apply KeepBut.set_ | apply keep_drewN | apply keep_drew | apply keep_alloc) | exact HK.out)⟩

end Go.Proofs.Ytcinaflmpdmdaaa.Q
end
section
namespace Go.Proofs.Ytcinaflmpdmdaaa.Q
open Go.RowKit Go.Proofs.YtcinaflmpdmdaaaW.PrintWords Go.Proofs.YtcinaflmpdmdaaaW.PrintLast Go.Proofs.YtcinaflmpdmdaaaW.PrintMore
attribute [local go_sem] max2_int min2_int max_two min_two max_three min_three max_four min_four   -- for this text's walks alone
set_option linter.unusedVariables false
set_option linter.unusedSimpArgs false

/-! ### impl_isLong: function 58 -/
def impl_isLong.f (l0 : List Int) : Option (Bool) := some (decide ((l0.length : Int) > 400))
set_option maxHeartbeats 8000000 in
set_option maxRecDepth 100000 in
theorem impl_isLong.calls (A0 : Option Addr) (c0 : Nat) (l0 : List Int) (r : Bool) (w : World) (hr0 : Kd.C (Kd.int .u8) w A0 l0.length l0) (hc0 : l0.length ≤ c0) (h : impl_isLong.f l0 = some r) :
    Calls Try.prog 58 #[.slice A0 l0.length c0] w fun e w' => e = .returned (.bool r) ∧ Drawn0 w w' := by
  have HR0 := Aside0.mk hr0
  have HC0 := Aside0.mk hc0
  clear hr0 hc0
  have H : (some (decide ((l0.length : Int) > 400))) = some r := h
  clear h
  obtain rfl := Option.some.inj H
  go_enter Try.func58, Try.ntmps58
  go_wp2
  go_ret
  exact ⟨by first | rfl | (simp; done) | (simp [*]; done), by repeat (first | exact Drawn0.refl _ | apply Drawn0.step)⟩

end Go.Proofs.Ytcinaflmpdmdaaa.Q
end
section
namespace Go.Proofs.Ytcinaflmpdmdaaa.Q
open Go.RowKit Go.Proofs.YtcinaflmpdmdaaaW.PrintWords Go.Proofs.YtcinaflmpdmdaaaW.PrintLast Go.Proofs.YtcinaflmpdmdaaaW.PrintMore
attribute [local go_sem] max2_int min2_int max_two min_two max_three min_three max_four min_four   -- for this text's walks alone
set_option linter.unusedVariables false
set_option linter.unusedSimpArgs false

/-! ### impl_rowCode: function 62 -/
def impl_rowCode.f (k : Nat) (l0 : List Int) (a1_0 : Int) (a1_1 : Bool) (a1_2 : Int) : Option (Int) := (impl_LayoutFault.f k a1_0 a1_1 a1_2).bind fun t102 => (if t102 = 0 then ((impl_isLong.f l0).bind fun t103 => (if t103 = true then (some 2) else (some 0))) else (some t102))
theorem impl_rowCode.mono : ∀ a0 a1 a2 a3 k, LeO (impl_rowCode.f k a0 a1 a2 a3) (impl_rowCode.f (k + 1) a0 a1 a2 a3) := by
  intro a0 a1 a2 a3 k
  unfold impl_rowCode.f
  repeat' first
      | (with_reducible exact impl_LayoutFault.mono _ _ _ _)
      | (with_reducible exact LeO.refl _)
      | (with_reducible exact LeO.none _)
      | (with_reducible refine LeO.ite ?_ ?_)
      | (with_reducible refine LeO.bind ?_ (fun _ => ?_))
      | exact impl_LayoutFault.mono _ _ _ _
      | exact LeO.none _
      | refine LeO.ite ?_ ?_
      | refine LeO.bind ?_ (fun _ => ?_)
set_option maxHeartbeats 8000000 in
set_option maxRecDepth 100000 in
theorem impl_rowCode.calls (k : Nat) (A0 : Option Addr) (c0 : Nat) (l0 : List Int) (a1_0 : Int) (a1_1 : Bool) (a1_2 : Int) (r : Int) (w : World) (hr0 : Kd.C (Kd.int .u8) w A0 l0.length l0) (hc0 : l0.length ≤ c0) (h : impl_rowCode.f k l0 a1_0 a1_1 a1_2 = some r) :
    Calls Try.prog 62 #[.slice A0 l0.length c0, .agg #[.int .i64 a1_0, .bool a1_1, .int .i64 a1_2]] w fun e w' => e = .returned (.int .i64 r) ∧ Below w.heap.size w w' := by
  have hu25 := Try.underlying25
  have HR0 := Aside0.mk hr0
  have HC0 := Aside0.mk hc0
  clear hr0 hc0
  have HB := Aside0.mk (Below.refl w.heap.size w)
  have H : ((impl_LayoutFault.f k a1_0 a1_1 a1_2).bind fun t102 => (if t102 = 0 then ((impl_isLong.f l0).bind fun t103 => (if t103 = true then (some 2) else (some 0))) else (some t102))) = some r := h
  clear h
  replace H := Option.bind_eq_some_iff.mp H
  obtain ⟨t102, A30, H⟩ := H
  replace H : (if t102 = 0 then ((impl_isLong.f l0).bind fun t103 => (if t103 = true then (some 2) else (some 0))) else (some t102)) = some r := H
  have A3 := Aside0.mk A30
  clear A30
  by_cases c4 : t102 = 0
  · rw [if_pos c4] at H
    have c4b0 : (t102 == 0) = true := beq_iff_eq.mpr c4
    have c4b1 : (t102 != 0) = false := bne_eq_false_iff_eq.mpr c4
    clear c4
    replace H := Option.bind_eq_some_iff.mp H
    obtain ⟨t103, A50, H⟩ := H
    replace H : (if t103 = true then (some 2) else (some 0)) = some r := H
    have A5 := Aside0.mk A50
    clear A50
    by_cases c6 : t103 = true
    · subst c6
      have H1 : (some 2) = some r := by rw [if_pos rfl] at H; exact H
      clear H
      have H := H1
      clear H1
      obtain rfl := Option.some.inj H
      go_enter Try.func62, Try.ntmps62
      go_wp2_with (first | ((with_reducible refine gate_dst (N := 3) rfl ?_); refine box_event ?hg (N := 3) ?hd (cs := #[.int .i64 a1_0, .bool a1_1, .int .i64 a1_2]) (t := 25) ?hr ?_; (case hd => rfl); (case hg => rfl); (case hr => first | (go_simp; done) | (go_simp; rfl)); intro gb101 hg w7 hbox hb; have n0_ := Aside0.mk (below_step (by repeat (first | (with_reducible first | exact HB.out | apply below_alloc | apply pw_below_drewN | apply below_drew1) | exact HB.out)) hb); have n1_ := Aside0.mk (hbox); have n2_ := Aside0.mk ((by rw [hg]; exact (below_size (by repeat (first | (with_reducible first | exact HB.out | apply below_alloc | apply pw_below_drewN | apply below_drew1) | exact HB.out))) : w.heap.size ≤ gb101)); have n3_ := Aside0.mk ((by rw [hg]; exact (below_size (by repeat (first | (with_reducible first | exact HB.out | apply below_alloc | apply pw_below_drewN | apply below_drew1) | exact HB.out))) : w.heap.size ≤ gb101)); clear HB; have HB := n0_; have BK101 := n1_; have GW101 := n2_; have GE101 := n3_; clear n0_ n1_ n2_ n3_; clear hb hbox hg; have hcz8_0 : w7.cell? ⟨gb101, 0, none⟩ = some (.int .i64 a1_0) := (blk_cell BK101.out 0).trans rfl; have hcz8_1 : w7.cell? ⟨gb101, 1, none⟩ = some (.bool a1_1) := (blk_cell BK101.out 1).trans rfl; have hcz8_2 : w7.cell? ⟨gb101, 2, none⟩ = some (.int .i64 a1_2) := (blk_cell BK101.out 2).trans rfl; have hfz8_0 := blk_frozen BK101.out 0; have hfz8_1 := blk_frozen BK101.out 1; have hfz8_2 := blk_frozen BK101.out 2) | ((with_reducible refine gate_callee (f := 16) rfl ?_); refine goesL_ (some 7) rfl rfl Try.func16 (by kernel_rfl) rfl #[.agg #[.int .i64 a1_0, .bool a1_1, .int .i64 a1_2]] rfl (by (try simp only [List.map_toArray, List.map_cons, List.map_nil]); first | done | rfl | (simp only [List.length_drop, List.length_take]; rfl)) ?_; (with_reducible refine (impl_LayoutFault.calls k a1_0 a1_1 a1_2 t102 _ A3.out).mono ?_); rintro e w9 ⟨rfl, hb⟩; refine ⟨_, rfl, ?_⟩; have n0_ := Aside0.mk (blk_below (g := gb101) (o := .cells #[.int .i64 a1_0, .bool a1_1, .int .i64 a1_2] 25 (0, 0)) (by (with_reducible repeat (first | refine blk_drewN ?_ _ | refine blk_drew ?_ | refine blk_alloc ?_ _)); exact BK101.out) hb); have n1_ := Aside0.mk (below_step (by repeat (first | (with_reducible first | exact HB.out | apply below_alloc | apply pw_below_drewN | apply below_drew1 | refine below_set ?_ GE101.out) | exact HB.out)) hb); clear BK101; clear HB; have BK101 := n0_; have HB := n1_; clear n0_ n1_; (try clear hb); (try clear hb2); (try clear hk); (try clear hi)) | ((with_reducible refine gate_callee (f := 58) rfl ?_); refine goesL_ (some 12) rfl rfl Try.func58 (by kernel_rfl) rfl #[.slice A0 l0.length c0] rfl (by (try simp only [List.map_toArray, List.map_cons, List.map_nil]); first | done | rfl | (simp only [List.length_drop, List.length_take]; rfl)) ?_; (with_reducible refine (impl_isLong.calls _ _ l0 true _ ?side1 ?side2 A5.out).mono ?_); (case side1 => repeat (first | exact (Kd.C_below HR0.out HB.out) | (with_reducible refine Kd.C_alloc ?_ _) | (with_reducible refine Kd.C_drewN ?_ _) | (with_reducible refine Kd.C_drew ?_))); (case side2 => exact HC0.out); rintro e w' ⟨rfl, ⟨nd, rfl⟩⟩; refine ⟨_, rfl, ?_⟩))
      go_ret
      exact ⟨by first | rfl | (simp [errW_none, errW_some] <;> rfl) | (simp [*, errW_none, errW_some] <;> rfl), by repeat (first | (with_reducible first | exact HB.out | apply below_alloc | apply pw_below_drewN | apply below_drew1 | refine below_set ?_ GE101.out) | exact HB.out)⟩
    · replace c6 := Bool.eq_false_iff.mpr c6
      subst c6
      have H1 : (some 0) = some r := by rw [if_neg (show ¬ (false = true) by decide)] at H; exact H
      clear H
      have H := H1
      clear H1
      obtain rfl := Option.some.inj H
      go_enter Try.func62, Try.ntmps62
      go_wp2_with (first | ((with_reducible refine gate_dst (N := 3) rfl ?_); refine box_event ?hg (N := 3) ?hd (cs := #[.int .i64 a1_0, .bool a1_1, .int .i64 a1_2]) (t := 25) ?hr ?_; (case hd => rfl); (case hg => rfl); (case hr => first | (go_simp; done) | (go_simp; rfl)); intro gb101 hg w10 hbox hb; have n0_ := Aside0.mk (below_step (by repeat (first | (with_reducible first | exact HB.out | apply below_alloc | apply pw_below_drewN | apply below_drew1) | exact HB.out)) hb); have n1_ := Aside0.mk (hbox); have n2_ := Aside0.mk ((by rw [hg]; exact (below_size (by repeat (first | (with_reducible first | exact HB.out | apply below_alloc | apply pw_below_drewN | apply below_drew1) | exact HB.out))) : w.heap.size ≤ gb101)); have n3_ := Aside0.mk ((by rw [hg]; exact (below_size (by repeat (first | (with_reducible first | exact HB.out | apply below_alloc | apply pw_below_drewN | apply below_drew1) | exact HB.out))) : w.heap.size ≤ gb101)); clear HB; have HB := n0_; have BK101 := n1_; have GW101 := n2_; have GE101 := n3_; clear n0_ n1_ n2_ n3_; clear hb hbox hg; have hcz11_0 : w10.cell? ⟨gb101, 0, none⟩ = some (.int .i64 a1_0) := (blk_cell BK101.out 0).trans rfl; have hcz11_1 : w10.cell? ⟨gb101, 1, none⟩ = some (.bool a1_1) := (blk_cell BK101.out 1).trans rfl; have hcz11_2 : w10.cell? ⟨gb101, 2, none⟩ = some (.int .i64 a1_2) := (blk_cell BK101.out 2).trans rfl; have hfz11_0 := blk_frozen BK101.out 0; have hfz11_1 := blk_frozen BK101.out 1; have hfz11_2 := blk_frozen BK101.out 2) | ((with_reducible refine gate_callee (f := 16) rfl ?_); refine goesL_ (some 7) rfl rfl Try.func16 (by kernel_rfl) rfl #[.agg #[.int .i64 a1_0, .bool a1_1, .int .i64 a1_2]] rfl (by (try simp only [List.map_toArray, List.map_cons, List.map_nil]); first | done | rfl | (simp only [List.length_drop, List.length_take]; rfl)) ?_; (with_reducible refine (impl_LayoutFault.calls k a1_0 a1_1 a1_2 t102 _ A3.out).mono ?_); rintro e w12 ⟨rfl, hb⟩; refine ⟨_, rfl, ?_⟩; have n0_ := Aside0.mk (blk_below (g := gb101) (o := .cells #[.int .i64 a1_0, .bool a1_1, .int .i64 a1_2] 25 (0, 0)) (by (with_reducible repeat (first | refine blk_drewN ?_ _ | refine blk_drew ?_ | refine blk_alloc ?_ _)); exact BK101.out) hb); have n1_ := Aside0.mk (below_step (by repeat (first | (with_reducible first | exact HB.out | apply below_alloc | apply pw_below_drewN | apply below_drew1 | refine below_set ?_ GE101.out) | exact HB.out)) hb); clear BK101; clear HB; have BK101 := n0_; have HB := n1_; clear n0_ n1_; (try clear hb); (try clear hb2); (try clear hk); (try clear hi)) | ((with_reducible refine gate_callee (f := 58) rfl ?_); refine goesL_ (some 12) rfl rfl Try.func58 (by kernel_rfl) rfl #[.slice A0 l0.length c0] rfl (by (try simp only [List.map_toArray, List.map_cons, List.map_nil]); first | done | rfl | (simp only [List.length_drop, List.length_take]; rfl)) ?_; (with_reducible refine (impl_isLong.calls _ _ l0 false _ ?side1 ?side2 A5.out).mono ?_); (case side1 => repeat (first | exact (Kd.C_below HR0.out HB.out) | (with_reducible refine Kd.C_alloc ?_ _) | (with_reducible refine Kd.C_drewN ?_ _) | (with_reducible refine Kd.C_drew ?_))); (case side2 => exact HC0.out); rintro e w' ⟨rfl, ⟨nd, rfl⟩⟩; refine ⟨_, rfl, ?_⟩))
      go_ret
      exact ⟨by first | rfl | (simp [errW_none, errW_some] <;> rfl) | (simp [*, errW_none, errW_some] <;> rfl), by repeat (first | (with_reducible first | exact HB.out | apply below_alloc | apply pw_below_drewN | apply below_drew1 | refine below_set ?_ GE101.out) | exact HB.out)⟩
  · rw [if_neg c4] at H
    have c4b0 : (t102 == 0) = false := beq_eq_false_iff_ne.mpr c4
    have c4b1 : (t102 != 0) = true := bne_iff_ne.mpr c4
    obtain rfl := Option.some.inj H
    go_enter Try.func62, Try.ntmps62
    go_wp2_with (first | ((with_reducible refine gate_dst (N := 3) rfl ?_); refine box_event ?hg (N := 3) ?hd (cs := #[.int .i64 a1_0, .bool a1_1, .int .i64 a1_2]) (t := 25) ?hr ?_; (case hd => rfl); (case hg => rfl); (case hr => first | (go_simp; done) | (go_simp; rfl)); intro gb101 hg w13 hbox hb; have n0_ := Aside0.mk (below_step (by repeat (first | (with_reducible first | exact HB.out | apply below_alloc | apply pw_below_drewN | apply below_drew1) | exact HB.out)) hb); have n1_ := Aside0.mk (hbox); have n2_ := Aside0.mk ((by rw [hg]; exact (below_size (by repeat (first | (with_reducible first | exact HB.out | apply below_alloc | apply pw_below_drewN | apply below_drew1) | exact HB.out))) : w.heap.size ≤ gb101)); have n3_ := Aside0.mk ((by rw [hg]; exact (below_size (by repeat (first | (with_reducible first | exact HB.out | apply below_alloc | apply pw_below_drewN | apply below_drew1) | exact HB.out))) : w.heap.size ≤ gb101)); clear HB; have HB := n0_; have BK101 := n1_; have GW101 := n2_; have GE101 := n3_; clear n0_ n1_ n2_ n3_; clear hb hbox hg; have hcz14_0 : w13.cell? ⟨gb101, 0, none⟩ = some (.int .i64 a1_0) := (blk_cell BK101.out 0).trans rfl; have hcz14_1 : w13.cell? ⟨gb101, 1, none⟩ = some (.bool a1_1) := (blk_cell BK101.out 1).trans rfl; have hcz14_2 : w13.cell? ⟨gb101, 2, none⟩ = some (.int .i64 a1_2) := (blk_cell BK101.out 2).trans rfl; have hfz14_0 := blk_frozen BK101.out 0; have hfz14_1 := blk_frozen BK101.out 1; have hfz14_2 := blk_frozen BK101.out 2) | ((with_reducible refine gate_callee (f := 16) rfl ?_); refine goesL_ (some 7) rfl rfl Try.func16 (by kernel_rfl) rfl #[.agg #[.int .i64 a1_0, .bool a1_1, .int .i64 a1_2]] rfl (by (try simp only [List.map_toArray, List.map_cons, List.map_nil]); first | done | rfl | (simp only [List.length_drop, List.length_take]; rfl)) ?_; (with_reducible refine (impl_LayoutFault.calls k a1_0 a1_1 a1_2 t102 _ A3.out).mono ?_); rintro e w15 ⟨rfl, hb⟩; refine ⟨_, rfl, ?_⟩; have n0_ := Aside0.mk (blk_below (g := gb101) (o := .cells #[.int .i64 a1_0, .bool a1_1, .int .i64 a1_2] 25 (0, 0)) (by (with_reducible repeat (first | refine blk_drewN ?_ _ | refine blk_drew ?_ | refine blk_alloc ?_ _)); exact BK101.out) hb); have n1_ := Aside0.mk (below_step (by repeat (first | (with_reducible first | exact HB.out | apply below_alloc | apply pw_below_drewN | apply below_drew1 | refine below_set ?_ GE101.out) | exact HB.out)) hb); clear BK101; clear HB; have BK101 := n0_; have HB := n1_; clear n0_ n1_; (try clear hb); (try clear hb2); (try clear hk); (try clear hi)))
    go_ret
    exact ⟨by first | rfl | (simp [errW_none, errW_some] <;> rfl) | (simp [*, errW_none, errW_some] <;> rfl), by repeat (first | (with_reducible first | exact HB.out | apply below_alloc | apply pw_below_drewN | apply below_drew1 | refine below_set ?_ GE101.out) | exact HB.out)⟩

end Go.Proofs.Ytcinaflmpdmdaaa.Q
end
section
namespace Go.Proofs.Ytcinaflmpdmdaaa.Q
open Go.RowKit Go.Proofs.YtcinaflmpdmdaaaW.PrintWords Go.Proofs.YtcinaflmpdmdaaaW.PrintLast Go.Proofs.YtcinaflmpdmdaaaW.PrintMore
attribute [local go_sem] max2_int min2_int max_two min_two max_three min_three max_four min_four   -- for this text's walks alone
set_option linter.unusedVariables false
set_option linter.unusedSimpArgs false

/-! ### impl_RowCount: function 23 -/
def impl_RowCount.f (k : Nat) (l0 : List Int) (a1_0 : Int) (a1_1 : Bool) (a1_2 : Int) : Option (Int × Int) := (impl_rowCode.f k l0 a1_0 a1_1 a1_2).bind fun t103 => (if t103 = 0 then ((impl_rowCount.f l0 a1_0 a1_1 a1_2).bind fun t104 => (some (0, t104))) else (some (t103, 0)))
theorem impl_RowCount.mono : ∀ a0 a1 a2 a3 k, LeO (impl_RowCount.f k a0 a1 a2 a3) (impl_RowCount.f (k + 1) a0 a1 a2 a3) := by
  intro a0 a1 a2 a3 k
  unfold impl_RowCount.f
  repeat' first
      | (with_reducible exact impl_rowCode.mono _ _ _ _ _)
      | (with_reducible exact LeO.refl _)
      | (with_reducible exact LeO.none _)
      | (with_reducible refine LeO.ite ?_ ?_)
      | (with_reducible refine LeO.bind ?_ (fun _ => ?_))
      | exact impl_rowCode.mono _ _ _ _ _
      | exact LeO.none _
      | refine LeO.ite ?_ ?_
      | refine LeO.bind ?_ (fun _ => ?_)
set_option maxHeartbeats 8000000 in
set_option maxRecDepth 100000 in
theorem impl_RowCount.calls (k : Nat) (A0 : Option Addr) (c0 : Nat) (l0 : List Int) (a1_0 : Int) (a1_1 : Bool) (a1_2 : Int) (r1 : Int) (r2 : Int) (w : World) (hr0 : Kd.C (Kd.int .u8) w A0 l0.length l0) (hc0 : l0.length ≤ c0) (h : impl_RowCount.f k l0 a1_0 a1_1 a1_2 = some (r1, r2)) :
    Calls Try.prog 23 #[.slice A0 l0.length c0, .agg #[.int .i64 a1_0, .bool a1_1, .int .i64 a1_2]] w fun e w' => e = .returned (.agg #[.int .i64 r1, .int .i64 r2]) ∧ Below w.heap.size w w' := by
  have hu25 := Try.underlying25
  have hu30 := Try.underlying30
  have HR0 := Aside0.mk hr0
  have HC0 := Aside0.mk hc0
  clear hr0 hc0
  have HB := Aside0.mk (Below.refl w.heap.size w)
  have H : ((impl_rowCode.f k l0 a1_0 a1_1 a1_2).bind fun t103 => (if t103 = 0 then ((impl_rowCount.f l0 a1_0 a1_1 a1_2).bind fun t104 => (some (0, t104))) else (some (t103, 0)))) = some (r1, r2) := h
  clear h
  replace H := Option.bind_eq_some_iff.mp H
  obtain ⟨t103, A30, H⟩ := H
  replace H : (if t103 = 0 then ((impl_rowCount.f l0 a1_0 a1_1 a1_2).bind fun t104 => (some (0, t104))) else (some (t103, 0))) = some (r1, r2) := H
  have A3 := Aside0.mk A30
  clear A30
  by_cases c4 : t103 = 0
  · rw [if_pos c4] at H
    have c4b0 : (t103 == 0) = true := beq_iff_eq.mpr c4
    have c4b1 : (t103 != 0) = false := bne_eq_false_iff_eq.mpr c4
    clear c4
    replace H := Option.bind_eq_some_iff.mp H
    obtain ⟨t104, A50, H⟩ := H
    replace H : (some (0, t104)) = some (r1, r2) := H
    have A5 := Aside0.mk A50
    clear A50
    simp only [Option.some.injEq, Prod.mk.injEq] at H
    obtain ⟨rfl, rfl⟩ := H
    go_enter Try.func23, Try.ntmps23
    go_wp2_with (first | ((with_reducible refine gate_dst (N := 3) rfl ?_); refine box_event ?hg (N := 3) ?hd (cs := #[.int .i64 a1_0, .bool a1_1, .int .i64 a1_2]) (t := 25) ?hr ?_; (case hd => rfl); (case hg => rfl); (case hr => first | (go_simp; done) | (go_simp; rfl)); intro gb101 hg w6 hbox hb; have n0_ := Aside0.mk (below_step (by repeat (first | (with_reducible first | exact HB.out | apply below_alloc | apply pw_below_drewN | apply below_drew1) | exact HB.out)) hb); have n1_ := Aside0.mk (hbox); have n2_ := Aside0.mk ((by rw [hg]; exact (below_size (by repeat (first | (with_reducible first | exact HB.out | apply below_alloc | apply pw_below_drewN | apply below_drew1) | exact HB.out))) : w.heap.size ≤ gb101)); have n3_ := Aside0.mk ((by rw [hg]; exact (below_size (by repeat (first | (with_reducible first | exact HB.out | apply below_alloc | apply pw_below_drewN | apply below_drew1) | exact HB.out))) : w.heap.size ≤ gb101)); clear HB; have HB := n0_; have BK101 := n1_; have GW101 := n2_; have GE101 := n3_; clear n0_ n1_ n2_ n3_; clear hb hbox hg) | ((with_reducible refine gate_dst (N := 4) rfl ?_); refine box_event ?hg (N := 4) ?hd (cs := #[.int .i64 0, .int .i64 0]) (t := 30) ?hr ?_; (case hd => rfl); (case hg => rfl); (case hr => first | (go_simp; done) | (go_simp; rfl)); intro gb102 hg w7 hbox hb; have n0_ := Aside0.mk (blk_below (g := gb101) (o := .cells #[.int .i64 a1_0, .bool a1_1, .int .i64 a1_2] 25 (0, 0)) (by (with_reducible repeat (first | refine blk_drewN ?_ _ | refine blk_drew ?_ | refine blk_alloc ?_ _)); exact BK101.out) hb); have n1_ := Aside0.mk (below_step (by repeat (first | (with_reducible first | exact HB.out | apply below_alloc | apply pw_below_drewN | apply below_drew1 | refine below_set ?_ GE101.out) | exact HB.out)) hb); have n2_ := Aside0.mk (hbox); have n3_ := Aside0.mk ((by rw [hg]; exact (below_size (by repeat (first | (with_reducible first | exact HB.out | apply below_alloc | apply pw_below_drewN | apply below_drew1 | refine below_set ?_ GE101.out) | exact HB.out))) : w.heap.size ≤ gb102)); have n4_ := Aside0.mk ((by rw [hg]; exact (below_size (by repeat (first | (with_reducible first | exact HB.out | apply below_alloc | apply pw_below_drewN | apply below_drew1 | refine below_set ?_ GE101.out) | exact HB.out))) : w.heap.size ≤ gb102)); have n5_ := Aside0.mk ((by rw [hg]; exact Nat.ne_of_lt (blk_lt (g := gb101) (o := .cells #[.int .i64 a1_0, .bool a1_1, .int .i64 a1_2] 25 (0, 0)) (by (with_reducible repeat (first | refine blk_drewN ?_ _ | refine blk_drew ?_ | refine blk_alloc ?_ _)); exact BK101.out)) : gb101 ≠ gb102)); have n6_ := Aside0.mk ((by rw [hg]; exact Nat.ne_of_gt (blk_lt (g := gb101) (o := .cells #[.int .i64 a1_0, .bool a1_1, .int .i64 a1_2] 25 (0, 0)) (by (with_reducible repeat (first | refine blk_drewN ?_ _ | refine blk_drew ?_ | refine blk_alloc ?_ _)); exact BK101.out)) : gb102 ≠ gb101)); clear BK101; clear HB; have BK101 := n0_; have HB := n1_; have BK102 := n2_; have GW102 := n3_; have GE102 := n4_; have NB101_102 := n5_; have NB102_101 := n6_; clear n0_ n1_ n2_ n3_ n4_ n5_ n6_; clear hb hbox hg; have hnb8 := NB101_102.out; have hnc8 := NB102_101.out; have hcz9_0 : w7.cell? ⟨gb101, 0, none⟩ = some (.int .i64 a1_0) := (blk_cell BK101.out 0).trans rfl; have hcz9_1 : w7.cell? ⟨gb101, 1, none⟩ = some (.bool a1_1) := (blk_cell BK101.out 1).trans rfl; have hcz9_2 : w7.cell? ⟨gb101, 2, none⟩ = some (.int .i64 a1_2) := (blk_cell BK101.out 2).trans rfl; have hfz9_0 := blk_frozen BK101.out 0; have hfz9_1 := blk_frozen BK101.out 1; have hfz9_2 := blk_frozen BK101.out 2) | ((with_reducible refine gate_callee (f := 62) rfl ?_); refine goesL_ (some 8) rfl rfl Try.func62 (by kernel_rfl) rfl #[.slice A0 l0.length c0, .agg #[.int .i64 a1_0, .bool a1_1, .int .i64 a1_2]] rfl (by (try simp only [List.map_toArray, List.map_cons, List.map_nil]); first | done | rfl | (simp only [List.length_drop, List.length_take]; rfl)) ?_; (with_reducible refine (impl_rowCode.calls k _ _ l0 a1_0 a1_1 a1_2 t103 _ ?side1 ?side2 A3.out).mono ?_); (case side1 => repeat (first | exact (Kd.C_below HR0.out HB.out) | (with_reducible refine Kd.C_alloc ?_ _) | (with_reducible refine Kd.C_drewN ?_ _) | (with_reducible refine Kd.C_drew ?_))); (case side2 => exact HC0.out); rintro e w10 ⟨rfl, hb⟩; refine ⟨_, rfl, ?_⟩; have n0_ := Aside0.mk (blk_below (g := gb101) (o := .cells #[.int .i64 a1_0, .bool a1_1, .int .i64 a1_2] 25 (0, 0)) (by (with_reducible repeat (first | refine blk_drewN ?_ _ | refine blk_drew ?_ | refine blk_alloc ?_ _)); exact BK101.out) hb); have n1_ := Aside0.mk (blk_below (g := gb102) (o := .cells #[.int .i64 0, .int .i64 0] 30 (0, 0)) (by (with_reducible repeat (first | refine blk_drewN ?_ _ | refine blk_drew ?_ | refine blk_alloc ?_ _)); exact BK102.out) hb); have n2_ := Aside0.mk (below_step (by repeat (first | (with_reducible first | exact HB.out | apply below_alloc | apply pw_below_drewN | apply below_drew1 | refine below_set ?_ GE101.out | refine below_set ?_ GE102.out) | exact HB.out)) hb); clear BK101; clear BK102; clear HB; have BK101 := n0_; have BK102 := n1_; have HB := n2_; clear n0_ n1_ n2_; (try clear hb); (try clear hb2); (try clear hk); (try clear hi); have hcz11_0 : w10.cell? ⟨gb101, 0, none⟩ = some (.int .i64 a1_0) := (blk_cell BK101.out 0).trans rfl; have hcz11_1 : w10.cell? ⟨gb101, 1, none⟩ = some (.bool a1_1) := (blk_cell BK101.out 1).trans rfl; have hcz11_2 : w10.cell? ⟨gb101, 2, none⟩ = some (.int .i64 a1_2) := (blk_cell BK101.out 2).trans rfl; have hfz11_0 := blk_frozen BK101.out 0; have hfz11_1 := blk_frozen BK101.out 1; have hfz11_2 := blk_frozen BK101.out 2) | ((with_reducible refine gate_callee (f := 63) rfl ?_); refine goesL_ (some 15) rfl rfl Try.func63 (by kernel_rfl) rfl #[.slice A0 l0.length c0, .agg #[.int .i64 a1_0, .bool a1_1, .int .i64 a1_2]] rfl (by (try simp only [List.map_toArray, List.map_cons, List.map_nil]); first | done | rfl | (simp only [List.length_drop, List.length_take]; rfl)) ?_; (with_reducible refine (impl_rowCount.calls _ _ l0 a1_0 a1_1 a1_2 t104 _ ?side1 ?side2 A5.out).mono ?_); (case side1 => repeat (first | exact (Kd.C_below HR0.out HB.out) | (with_reducible refine Kd.C_alloc ?_ _) | (with_reducible refine Kd.C_drewN ?_ _) | (with_reducible refine Kd.C_drew ?_))); (case side2 => exact HC0.out); rintro e w12 ⟨rfl, hb⟩; refine ⟨_, rfl, ?_⟩; have n0_ := Aside0.mk (blk_below (g := gb101) (o := .cells #[.int .i64 a1_0, .bool a1_1, .int .i64 a1_2] 25 (0, 0)) (by (with_reducible repeat (first | refine blk_drewN ?_ _ | refine blk_drew ?_ | refine blk_alloc ?_ _)); exact BK101.out) hb); have n1_ := Aside0.mk (blk_below (g := gb102) (o := .cells #[.int .i64 0, .int .i64 0] 30 (0, 0)) (by (with_reducible repeat (first | refine blk_drewN ?_ _ | refine blk_drew ?_ | refine blk_alloc ?_ _)); exact BK102.out) hb); have n2_ := Aside0.mk (below_step (by repeat (first | (with_reducible first | exact HB.out | apply below_alloc | apply pw_below_drewN | apply below_drew1 | refine below_set ?_ GE101.out | refine below_set ?_ GE102.out) | exact HB.out)) hb); clear BK101; clear BK102; clear HB; have BK101 := n0_; have BK102 := n1_; have HB := n2_; clear n0_ n1_ n2_; (try clear hb); (try clear hb2); (try clear hk); (try clear hi); have hcz13_0 : w12.cell? ⟨gb102, 0, none⟩ = some (.int .i64 0) := (blk_cell BK102.out 0).trans rfl; have hcz13_1 : w12.cell? ⟨gb102, 1, none⟩ = some (.int .i64 0) := (blk_cell BK102.out 1).trans rfl; have hfz13_0 := blk_frozen BK102.out 0; have hfz13_1 := blk_frozen BK102.out 1))
    refine bodyPost_ret (results_cell_row rfl _ _ gb102 30 #[.int .i64 0, .int .i64 t104] (0, 0) _ rfl (by (with_reducible repeat (first | refine blk_drewN ?_ _ | refine blk_drew ?_ | refine blk_alloc ?_ _)); refine blk_put (cs := #[.int .i64 0, .int .i64 0]) ?_ 1 _ rfl; (with_reducible repeat (first | refine blk_drewN ?_ _ | refine blk_drew ?_ | refine blk_alloc ?_ _)); refine blk_put (cs := #[.int .i64 0, .int .i64 0]) ?_ 0 _ rfl; (with_reducible repeat (first | refine blk_drewN ?_ _ | refine blk_drew ?_ | refine blk_alloc ?_ _)); exact BK102.out) Try.underlying30 rfl (by kernel_rfl)) rfl ?_
    exact ⟨by first | rfl | (simp [errW_none, errW_some] <;> rfl) | (simp [*, errW_none, errW_some] <;> rfl), by repeat (first | (with_reducible first | exact HB.out | apply below_alloc | apply pw_below_drewN | apply below_drew1 | refine below_set ?_ GE101.out | refine below_set ?_ GE102.out) | exact HB.out)⟩
  · rw [if_neg c4] at H
    have c4b0 : (t103 == 0) = false := beq_eq_false_iff_ne.mpr c4
    have c4b1 : (t103 != 0) = true := bne_iff_ne.mpr c4
    simp only [Option.some.injEq, Prod.mk.injEq] at H
    obtain ⟨rfl, rfl⟩ := H
    go_enter Try.func23, Try.ntmps23
    go_wp2_with (first | ((with_reducible refine gate_dst (N := 3) rfl ?_); refine box_event ?hg (N := 3) ?hd (cs := #[.int .i64 a1_0, .bool a1_1, .int .i64 a1_2]) (t := 25) ?hr ?_; (case hd => rfl); (case hg => rfl); (case hr => first | (go_simp; done) | (go_simp; rfl)); intro gb101 hg w14 hbox hb; have n0_ := Aside0.mk (below_step (by repeat (first | (with_reducible first | exact HB.out | apply below_alloc | apply pw_below_drewN | apply below_drew1) | exact HB.out)) hb); have n1_ := Aside0.mk (hbox); have n2_ := Aside0.mk ((by rw [hg]; exact (below_size (by repeat (first | (with_reducible first | exact HB.out | apply below_alloc | apply pw_below_drewN | apply below_drew1) | exact HB.out))) : w.heap.size ≤ gb101)); have n3_ := Aside0.mk ((by rw [hg]; exact (below_size (by repeat (first | (with_reducible first | exact HB.out | apply below_alloc | apply pw_below_drewN | apply below_drew1) | exact HB.out))) : w.heap.size ≤ gb101)); clear HB; have HB := n0_; have BK101 := n1_; have GW101 := n2_; have GE101 := n3_; clear n0_ n1_ n2_ n3_; clear hb hbox hg) | ((with_reducible refine gate_dst (N := 4) rfl ?_); refine box_event ?hg (N := 4) ?hd (cs := #[.int .i64 0, .int .i64 0]) (t := 30) ?hr ?_; (case hd => rfl); (case hg => rfl); (case hr => first | (go_simp; done) | (go_simp; rfl)); intro gb102 hg w15 hbox hb; have n0_ := Aside0.mk (blk_below (g := gb101) (o := .cells #[.int .i64 a1_0, .bool a1_1, .int .i64 a1_2] 25 (0, 0)) (by (with_reducible repeat (first | refine blk_drewN ?_ _ | refine blk_drew ?_ | refine blk_alloc ?_ _)); exact BK101.out) hb); have n1_ := Aside0.mk (below_step (by repeat (first | (with_reducible first | exact HB.out | apply below_alloc | apply pw_below_drewN | apply below_drew1 | refine below_set ?_ GE101.out) | exact HB.out)) hb); have n2_ := Aside0.mk (hbox); have n3_ := Aside0.mk ((by rw [hg]; exact (below_size (by repeat (first | (with_reducible first | exact HB.out | apply below_alloc | apply pw_below_drewN | apply below_drew1 | refine below_set ?_ GE101.out) | exact HB.out))) : w.heap.size ≤ gb102)); have n4_ := Aside0.mk ((by rw [hg]; exact (below_size (by repeat (first | (with_reducible first | exact HB.out | apply below_alloc | apply pw_below_drewN | apply below_drew1 | refine below_set ?_ GE101.out) | exact HB.out))) : w.heap.size ≤ gb102)); have n5_ := Aside0.mk ((by rw [hg]; exact Nat.ne_of_lt (blk_lt (g := gb101) (o := .cells #[.int .i64 a1_0, .bool a1_1, .int .i64 a1_2] 25 (0, 0)) (by (with_reducible repeat (first | refine blk_drewN ?_ _ | refine blk_drew ?_ | refine blk_alloc ?_ _)); exact BK101.out)) : gb101 ≠ gb102)); have n6_ := Aside0.mk ((by rw [hg]; exact Nat.ne_of_gt (blk_lt (g := gb101) (o := .cells #[.int .i64 a1_0, .bool a1_1, .int .i64 a1_2] 25 (0, 0)) (by (with_reducible repeat (first | refine blk_drewN ?_ _ | refine blk_drew ?_ | refine blk_alloc ?_ _)); exact BK101.out)) : gb102 ≠ gb101)); clear BK101; clear HB; have BK101 := n0_; have HB := n1_; have BK102 := n2_; have GW102 := n3_; have GE102 := n4_; have NB101_102 := n5_; have NB102_101 := n6_; clear n0_ n1_ n2_ n3_ n4_ n5_ n6_; clear hb hbox hg; have hnb16 := NB101_102.out; have hnc16 := NB102_101.out; have hcz17_0 : w15.cell? ⟨gb101, 0, none⟩ = some (.int .i64 a1_0) := (blk_cell BK101.out 0).trans rfl; have hcz17_1 : w15.cell? ⟨gb101, 1, none⟩ = some (.bool a1_1) := (blk_cell BK101.out 1).trans rfl; have hcz17_2 : w15.cell? ⟨gb101, 2, none⟩ = some (.int .i64 a1_2) := (blk_cell BK101.out 2).trans rfl; have hfz17_0 := blk_frozen BK101.out 0; have hfz17_1 := blk_frozen BK101.out 1; have hfz17_2 := blk_frozen BK101.out 2) | ((with_reducible refine gate_callee (f := 62) rfl ?_); refine goesL_ (some 8) rfl rfl Try.func62 (by kernel_rfl) rfl #[.slice A0 l0.length c0, .agg #[.int .i64 a1_0, .bool a1_1, .int .i64 a1_2]] rfl (by (try simp only [List.map_toArray, List.map_cons, List.map_nil]); first | done | rfl | (simp only [List.length_drop, List.length_take]; rfl)) ?_; (with_reducible refine (impl_rowCode.calls k _ _ l0 a1_0 a1_1 a1_2 t103 _ ?side1 ?side2 A3.out).mono ?_); (case side1 => repeat (first | exact (Kd.C_below HR0.out HB.out) | (with_reducible refine Kd.C_alloc ?_ _) | (with_reducible refine Kd.C_drewN ?_ _) | (with_reducible refine Kd.C_drew ?_))); (case side2 => exact HC0.out); rintro e w18 ⟨rfl, hb⟩; refine ⟨_, rfl, ?_⟩; have n0_ := Aside0.mk (blk_below (g := gb101) (o := .cells #[.int .i64 a1_0, .bool a1_1, .int .i64 a1_2] 25 (0, 0)) (by (with_reducible repeat (first | refine blk_drewN ?_ _ | refine blk_drew ?_ | refine blk_alloc ?_ _)); exact BK101.out) hb); have n1_ := Aside0.mk (blk_below (g := gb102) (o := .cells #[.int .i64 0, .int .i64 0] 30 (0, 0)) (by (with_reducible repeat (first | refine blk_drewN ?_ _ | refine blk_drew ?_ | refine blk_alloc ?_ _)); exact BK102.out) hb); have n2_ := Aside0.mk (below_step (by repeat (first | (with_reducible first | exact HB.out | apply below_alloc | apply pw_below_drewN | apply below_drew1 | refine below_set ?_ GE101.out | refine below_set ?_ GE102.out) | exact HB.out)) hb); clear BK101; clear BK102; clear HB; have BK101 := n0_; have BK102 := n1_; have HB := n2_; clear n0_ n1_ n2_; (try clear hb); (try clear hb2); (try clear hk); (try clear hi); have hcz19_0 : w18.cell? ⟨gb102, 0, none⟩ = some (.int .i64 0) := (blk_cell BK102.out 0).trans rfl; have hcz19_1 : w18.cell? ⟨gb102, 1, none⟩ = some (.int .i64 0) := (blk_cell BK102.out 1).trans rfl; have hfz19_0 := blk_frozen BK102.out 0; have hfz19_1 := blk_frozen BK102.out 1))
    refine bodyPost_ret (results_cell_row rfl _ _ gb102 30 #[.int .i64 t103, .int .i64 0] (0, 0) _ rfl (by (with_reducible repeat (first | refine blk_drewN ?_ _ | refine blk_drew ?_ | refine blk_alloc ?_ _)); refine blk_put (cs := #[.int .i64 t103, .int .i64 0]) ?_ 1 _ rfl; (with_reducible repeat (first | refine blk_drewN ?_ _ | refine blk_drew ?_ | refine blk_alloc ?_ _)); refine blk_put (cs := #[.int .i64 0, .int .i64 0]) ?_ 0 _ rfl; (with_reducible repeat (first | refine blk_drewN ?_ _ | refine blk_drew ?_ | refine blk_alloc ?_ _)); exact BK102.out) Try.underlying30 rfl (by kernel_rfl)) rfl ?_
    exact ⟨by first | rfl | (simp [errW_none, errW_some] <;> rfl) | (simp [*, errW_none, errW_some] <;> rfl), by repeat (first | (with_reducible first | exact HB.out | apply below_alloc | apply pw_below_drewN | apply below_drew1 | refine below_set ?_ GE101.out | refine below_set ?_ GE102.out) | exact HB.out)⟩

end Go.Proofs.Ytcinaflmpdmdaaa.Q
end
section
namespace Go.Proofs.Ytcinaflmpdmdaaa.Q
open Go.RowKit Go.Proofs.YtcinaflmpdmdaaaW.PrintWords Go.Proofs.YtcinaflmpdmdaaaW.PrintLast Go.Proofs.YtcinaflmpdmdaaaW.PrintMore
attribute [local go_sem] max2_int min2_int max_two min_two max_three min_three max_four min_four   -- for this text's walks alone
set_option linter.unusedVariables false
set_option linter.unusedSimpArgs false

/-! ### spec_l10Asked: function 60 -/
def spec_l10Asked.f (k : Nat) (l0 : List Int) (s1_0 : Int) (s1_1 : Bool) (s1_2 : Int) : Option (Int × Int × Bool × Int) := (spec_l10Fault.f k s1_0 s1_1 s1_2).bind fun bt101 => (if bt101.1 = 0 then (if (l0.length : Int) > 400 then (some (2, bt101.2.1, bt101.2.2.1, bt101.2.2.2)) else (some (0, bt101.2.1, bt101.2.2.1, bt101.2.2.2))) else (some (bt101.1, bt101.2.1, bt101.2.2.1, bt101.2.2.2)))
theorem spec_l10Asked.mono : ∀ a0 a1 a2 a3 k, LeO (spec_l10Asked.f k a0 a1 a2 a3) (spec_l10Asked.f (k + 1) a0 a1 a2 a3) := by
  intro a0 a1 a2 a3 k
  unfold spec_l10Asked.f
  repeat' first
      | (with_reducible exact spec_l10Fault.mono _ _ _ _)
      | (with_reducible exact LeO.refl _)
      | (with_reducible exact LeO.none _)
      | (with_reducible refine LeO.ite ?_ ?_)
      | (with_reducible refine LeO.bind ?_ (fun _ => ?_))
      | exact spec_l10Fault.mono _ _ _ _
      | exact LeO.none _
      | refine LeO.ite ?_ ?_
      | refine LeO.bind ?_ (fun _ => ?_)
set_option maxHeartbeats 8000000 in
set_option maxRecDepth 100000 in
theorem spec_l10Asked.calls (k : Nat) (A0 : Option Addr) (c0 : Nat) (l0 : List Int) (g : Nat) (s1_0 : Int) (s1_1 : Bool) (s1_2 : Int) (r1 : Int) (r2 : Int) (r3 : Bool) (r4 : Int) (w0 w : World) (hI : IsS25 w0 w g s1_0 s1_1 s1_2) (hB : Below w0.heap.size w0 w) (hr0 : Kd.C (Kd.int .u8) w A0 l0.length l0) (hc0 : l0.length ≤ c0) (hf0 : ∀ ad, A0 = some ad → 0 < l0.length → ad.block ≠ g) (h : spec_l10Asked.f k l0 s1_0 s1_1 s1_2 = some (r1, r2, r3, r4)) :
    Calls Try.prog 60 #[.slice A0 l0.length c0, .pointer (some ⟨g, 0, none⟩)] w fun e w' => e = .returned (.int .i64 r1) ∧ IsS25 w0 w' g r2 r3 r4 ∧ Below w0.heap.size w0 w' ∧ KeepBut w w' g none := by
  have HR0 := Aside0.mk hr0
  have HC0 := Aside0.mk hc0
  clear hr0 hc0
  have HI1 := Aside0.mk hI
  have HK := Aside0.mk (KeepBut.refl w g none)
  have HL := Aside0.mk hB.size
  clear hI
  have HW0 := Aside0.mk hB.size
  have HB := Aside0.mk hB
  clear hB
  have H : ((spec_l10Fault.f k s1_0 s1_1 s1_2).bind fun bt101 => (if bt101.1 = 0 then (if (l0.length : Int) > 400 then (some (2, bt101.2.1, bt101.2.2.1, bt101.2.2.2)) else (some (0, bt101.2.1, bt101.2.2.1, bt101.2.2.2))) else (some (bt101.1, bt101.2.1, bt101.2.2.1, bt101.2.2.2)))) = some (r1, r2, r3, r4) := h
  clear h
  replace H := Option.bind_eq_some_iff.mp H
  obtain ⟨⟨t101, t102, t103, t104⟩, A30, H⟩ := H
  replace H : (if t101 = 0 then (if (l0.length : Int) > 400 then (some (2, t102, t103, t104)) else (some (0, t102, t103, t104))) else (some (t101, t102, t103, t104))) = some (r1, r2, r3, r4) := H
  have A3 := Aside0.mk A30
  clear A30
  by_cases c4 : t101 = 0
  · rw [if_pos c4] at H
    have c4b0 : (t101 == 0) = true := beq_iff_eq.mpr c4
    have c4b1 : (t101 != 0) = false := bne_eq_false_iff_eq.mpr c4
    clear c4
    by_cases c5 : (l0.length : Int) > 400
    · rw [if_pos c5] at H
      have c5b0 : decide (400 < (l0.length : Int)) = true := decide_eq_true c5
      have c5b1 : decide (400 < l0.length) = true := decide_eq_true (by omega)
      clear c5
      simp only [Option.some.injEq, Prod.mk.injEq] at H
      obtain ⟨rfl, rfl, rfl, rfl⟩ := H
      go_enter Try.func60, Try.ntmps60
      go_wp2_with (first | ((with_reducible refine gate_callee (f := 55) rfl ?_); refine goesL_ (some 7) rfl rfl Try.func55 (by kernel_rfl) rfl #[.pointer (some ⟨g, 0, none⟩)] rfl (by (try simp only [List.map_toArray, List.map_cons, List.map_nil]); first | done | rfl | (simp only [List.length_drop, List.length_take]; rfl)) ?_; (with_reducible refine (spec_l10Fault.calls k g s1_0 s1_1 s1_2 t101 t102 t103 t104 w0 _ ?side1 ?side2 A3.out).mono ?_); (case side1 => repeat (first | (with_reducible first | exact HI1.out | apply IsS25.alloc | apply IsS25.drewN | apply IsS25.drew | apply IsS25.set_0 | apply IsS25.set_1 | apply IsS25.set_2) | exact HI1.out)); (case side2 => repeat (first | (with_reducible first | exact HB.out | apply below_alloc | apply pw_below_drewN | apply below_drew1 | refine below_set ?_ (IsS25.ge HI1.out)) | exact HB.out)); rintro e w6 ⟨rfl, hi, hb, hk⟩; refine ⟨_, rfl, ?_⟩; have n0_ := Aside0.mk (KeepBut.trans (by repeat (first | (with_reducible first | exact HK.out | apply KeepBut.set_ | apply keep_drewN | apply keep_drew | apply keep_alloc) | exact HK.out)) hk (.inl rfl)); have n1_ := Aside0.mk (hb); have n2_ := Aside0.mk (hi); clear HK; clear HB; clear HI1; have HK := n0_; have HB := n1_; have HI1 := n2_; clear n0_ n1_ n2_; (try clear hb); (try clear hb2); (try clear hk); (try clear hi)))
      go_ret
      exact ⟨by first | rfl | (simp [errW_none, errW_some] <;> rfl) | (simp [*, errW_none, errW_some] <;> rfl), by repeat (first | (with_reducible first | exact HI1.out | apply IsS25.alloc | apply IsS25.drewN | apply IsS25.drew | apply IsS25.set_0 | apply IsS25.set_1 | apply IsS25.set_2) | exact HI1.out), by repeat (first | (with_reducible first | exact HB.out | apply below_alloc | apply pw_below_drewN | apply below_drew1 | refine below_set ?_ (IsS25.ge HI1.out)) | exact HB.out), by repeat (first | (with_reducible first | exact HK.out | apply KeepBut.set_ | apply keep_drewN | apply keep_drew | apply keep_alloc) | exact HK.out)⟩
    · rw [if_neg c5] at H
      have c5b0 : decide (400 < (l0.length : Int)) = false := decide_eq_false c5
      have c5b1 : decide (400 < l0.length) = false := decide_eq_false (by omega)
      clear c5
      simp only [Option.some.injEq, Prod.mk.injEq] at H
      obtain ⟨rfl, rfl, rfl, rfl⟩ := H
      go_enter Try.func60, Try.ntmps60
      go_wp2_with (first | ((with_reducible refine gate_callee (f := 55) rfl ?_); refine goesL_ (some 7) rfl rfl Try.func55 (by kernel_rfl) rfl #[.pointer (some ⟨g, 0, none⟩)] rfl (by (try simp only [List.map_toArray, List.map_cons, List.map_nil]); first | done | rfl | (simp only [List.length_drop, List.length_take]; rfl)) ?_; (with_reducible refine (spec_l10Fault.calls k g s1_0 s1_1 s1_2 t101 t102 t103 t104 w0 _ ?side1 ?side2 A3.out).mono ?_); (case side1 => repeat (first | (with_reducible first | exact HI1.out | apply IsS25.alloc | apply IsS25.drewN | apply IsS25.drew | apply IsS25.set_0 | apply IsS25.set_1 | apply IsS25.set_2) | exact HI1.out)); (case side2 => repeat (first | (with_reducible first | exact HB.out | apply below_alloc | apply pw_below_drewN | apply below_drew1 | refine below_set ?_ (IsS25.ge HI1.out)) | exact HB.out)); rintro e w7 ⟨rfl, hi, hb, hk⟩; refine ⟨_, rfl, ?_⟩; have n0_ := Aside0.mk (KeepBut.trans (by repeat (first | (with_reducible first | exact HK.out | apply KeepBut.set_ | apply keep_drewN | apply keep_drew | apply keep_alloc) | exact HK.out)) hk (.inl rfl)); have n1_ := Aside0.mk (hb); have n2_ := Aside0.mk (hi); clear HK; clear HB; clear HI1; have HK := n0_; have HB := n1_; have HI1 := n2_; clear n0_ n1_ n2_; (try clear hb); (try clear hb2); (try clear hk); (try clear hi)))
      go_ret
      exact ⟨by first | rfl | (simp [errW_none, errW_some] <;> rfl) | (simp [*, errW_none, errW_some] <;> rfl), by repeat (first | (with_reducible first | exact HI1.out | apply IsS25.alloc | apply IsS25.drewN | apply IsS25.drew | apply IsS25.set_0 | apply IsS25.set_1 | apply IsS25.set_2) | exact HI1.out), by repeat (first | (with_reducible first | exact HB.out | apply below_alloc | apply pw_below_drewN | apply below_drew1 | refine below_set ?_ (IsS25.ge HI1.out)) | exact HB.out), by repeat (first | (with_reducible first | exact HK.out | apply KeepBut.set_ | apply keep_drewN | apply keep_drew | apply keep_alloc) | exact HK.out)⟩
  · rw [if_neg c4] at H
    have c4b0 : (t101 == 0) = false := beq_eq_false_iff_ne.mpr c4
    have c4b1 : (t101 != 0) = true := bne_iff_ne.mpr c4
    simp only [Option.some.injEq, Prod.mk.injEq] at H
    obtain ⟨rfl, rfl, rfl, rfl⟩ := H
    go_enter Try.func60, Try.ntmps60
    go_wp2_with (first | ((with_reducible refine gate_callee (f := 55) rfl ?_); refine goesL_ (some 7) rfl rfl Try.func55 (by kernel_rfl) rfl #[.pointer (some ⟨g, 0, none⟩)] rfl (by (try simp only [List.map_toArray, List.map_cons, List.map_nil]); first | done | rfl | (simp only [List.length_drop, List.length_take]; rfl)) ?_; (with_reducible refine (spec_l10Fault.calls k g s1_0 s1_1 s1_2 t101 t102 t103 t104 w0 _ ?side1 ?side2 A3.out).mono ?_); (case side1 => repeat (first | (with_reducible first | exact HI1.out | apply IsS25.alloc | apply IsS25.drewN | apply IsS25.drew | apply IsS25.set_0 | apply IsS25.set_1 | apply IsS25.set_2) | exact HI1.out)); (case side2 => repeat (first | (with_reducible first | exact HB.out | apply below_alloc | apply pw_below_drewN | apply below_drew1 | refine below_set ?_ (IsS25.ge HI1.out)) | exact HB.out)); rintro e w8 ⟨rfl, hi, hb, hk⟩; refine ⟨_, rfl, ?_⟩; have n0_ := Aside0.mk (KeepBut.trans (by repeat (first | (with_reducible first | exact HK.out | apply KeepBut.set_ | apply keep_drewN | apply keep_drew | apply keep_alloc) | exact HK.out)) hk (.inl rfl)); have n1_ := Aside0.mk (hb); have n2_ := Aside0.mk (hi); clear HK; clear HB; clear HI1; have HK := n0_; have HB := n1_; have HI1 := n2_; clear n0_ n1_ n2_; (try clear hb); (try clear hb2); (try clear hk); (try clear hi)))
    go_ret
    exact ⟨by first | rfl | (simp [errW_none, errW_some] <;> rfl) | (simp [*, errW_none, errW_some] <;> rfl), by repeat (first | (with_reducible first | exact HI1.out | apply IsS25.alloc | apply IsS25.drewN | apply IsS25.drew | apply IsS25.set_0 | apply IsS25.set_1 | apply IsS25.set_2) | exact HI1.out), by repeat (first | (with_reducible first | exact HB.out | apply below_alloc | apply pw_below_drewN | apply below_drew1 | refine below_set ?_ (IsS25.ge HI1.out)) | exact HB.out), by repeat (first | (with_reducible first | exact HK.out | apply KeepBut.set_ | apply keep_drewN | apply keep_drew | apply keep_alloc) | exact HK.out)⟩

end Go.Proofs.Ytcinaflmpdmdaaa.Q
end
section
namespace Go.Proofs.Ytcinaflmpdmdaaa.Q
open Go.RowKit Go.Proofs.YtcinaflmpdmdaaaW.PrintWords Go.Proofs.YtcinaflmpdmdaaaW.PrintLast Go.Proofs.YtcinaflmpdmdaaaW.PrintMore
attribute [local go_sem] max2_int min2_int max_two min_two max_three min_three max_four min_four   -- for this text's walks alone
set_option linter.unusedVariables false
set_option linter.unusedSimpArgs false

/-! ### spec_RowCount: function 22 -/
def spec_RowCount.f (k : Nat) (l0 : List Int) (a1_0 : Int) (a1_1 : Bool) (a1_2 : Int) : Option (Int × Int) :=
  (spec_l10Asked.f k l0 a1_0 a1_1 a1_2).bind fun t => if t.1 = 0 then (spec_l10Count.f l0 t.2.1 t.2.2.1 t.2.2.2).bind fun u => some (0, u.1) else some (t.1, 0)
theorem spec_RowCount.mono : ∀ a0 a1 a2 a3 k, LeO (spec_RowCount.f k a0 a1 a2 a3) (spec_RowCount.f (k + 1) a0 a1 a2 a3) := fun a0 a1 a2 a3 k => LeO.bind (spec_l10Asked.mono a0 a1 a2 a3 k) (fun _ => LeO.refl _)
theorem spec_RowCount.calls (k : Nat) (A0 : Option Addr) (c0 : Nat) (l0 : List Int) (a1_0 : Int) (a1_1 : Bool) (a1_2 : Int) (r1 r2 : Int) (w : World) (hr0 : Kd.C (Kd.int .u8) w A0 l0.length l0) (hc0 : l0.length ≤ c0) (h : spec_RowCount.f k l0 a1_0 a1_1 a1_2 = some (r1, r2)) :
    Calls Try.prog 22 #[.slice A0 l0.length c0, .agg #[.int .i64 a1_0, .bool a1_1, .int .i64 a1_2]] w fun e w' => e = .returned (.agg #[.int .i64 r1, .int .i64 r2]) ∧ Below w.heap.size w w' := by
  obtain ⟨⟨t1, t2, t3, t4⟩, h1, h2⟩ := Option.bind_eq_some_iff.mp h
  have H1 := Aside0.mk h1
  have HR := Aside0.mk hr0
  have HC := Aside0.mk hc0
  simp only at h2
  clear h h1 hr0 hc0
  obtain ⟨W, hW⟩ : ∃ W, W = (w.alloc (.cells #[.int .i64 a1_0, .bool a1_1, .int .i64 a1_2] 25)).alloc (.cells #[.int .i64 0, .int .i64 0] 30) := ⟨_, rfl⟩
  have hI : IsS25 w W w.heap.size a1_0 a1_1 a1_2 := by subst hW; exact (IsS25.new w w _ _ _ (Below.refl _ _)).alloc _
  have hB : Below w.heap.size w W := by subst hW; exact below_alloc (below_alloc (Below.refl _ _) _) _
  have hK : W.heap[w.heap.size + 1]? = some (.cells #[.int .i64 0, .int .i64 0] 30 (0, 0)) := by
    subst hW
    have := heap_alloc_new (w.alloc (.cells #[.int .i64 a1_0, .bool a1_1, .int .i64 a1_2] 25)) (.cells #[.int .i64 0, .int .i64 0] 30)
    simpa using this
  have hfar : ∀ ad, A0 = some ad → 0 < l0.length → ad.block ≠ w.heap.size := fun ad e hn => by
    obtain ⟨ad', e', hc⟩ := HR.out.2.2 hn
    obtain rfl : ad = ad' := Option.some.inj (e.symm.trans e')
    obtain ⟨x, hx⟩ : ∃ x, l0[0]? = some x := ⟨_, List.getElem?_eq_getElem hn⟩
    obtain ⟨c, hl, rfl, hcell⟩ := hc 0 x hx
    have := World.block_lt_of_cell? w _ (hcell 0 _ rfl)
    simp [Addr.add] at this
    omega
  have HW := Aside0.mk hW
  have HI := Aside0.mk hI
  have HB := Aside0.mk hB
  have HK := Aside0.mk hK
  have HF := Aside0.mk hfar
  clear hW hI hB hK hfar
  by_cases hz : t1 = 0
  · rw [if_pos hz] at h2
    subst hz
    obtain ⟨⟨u1, u2, u3, u4⟩, h3, h4⟩ := Option.bind_eq_some_iff.mp h2
    simp only [Option.some.injEq, Prod.mk.injEq] at h4
    obtain ⟨rfl, rfl⟩ := h4
    have H3 := Aside0.mk h3
    clear h2 h3
    go_enter Try.func22, Try.ntmps22
    go_wp2_with (fail)
    rw [← HW.out]
    refine (spec_l10Asked.calls k A0 c0 l0 w.heap.size a1_0 a1_1 a1_2 0 t2 t3 t4 w W HI.out HB.out (Kd.C_below HR.out HB.out) HC.out HF.out H1.out).mono ?_
    rintro e w1 ⟨rfl, hI1, hb1, hk1⟩
    have HK1 := Aside0.mk (hk1.blk HK.out (by omega) (by simp))
    have HI1 := Aside0.mk hI1
    have HB1 := Aside0.mk hb1
    clear hI1 hb1 hk1
    go_wp2_with (fail)
    refine (spec_l10Count.calls A0 c0 l0 w.heap.size t2 t3 t4 u1 u2 u3 u4 w w1 HI1.out HB1.out (Kd.C_below HR.out HB1.out) HC.out HF.out H3.out).mono ?_
    rintro e w2 ⟨rfl, hI2, hb2, hk2⟩
    have HK2 := hk2.blk HK1.out (by omega) (by simp)
    have hc0 := blk_cell HK2 0
    have hc1 := blk_cell HK2 1
    have hf0 := blk_frozen HK2 0
    have hf1 := blk_frozen HK2 1
    have HB2 := Aside0.mk hb2
    clear hI2 hb2 hk2 HK2
    go_wp2_with (fail)
    refine bodyPost_ret (by simp [results, Try.results22, go_sem, hc0, hc1, hf0, hf1]; try rfl) rfl ?_
    exact ⟨rfl, below_set (below_set HB2.out (by omega)) (by omega)⟩
  · rw [if_neg hz] at h2
    simp only [Option.some.injEq, Prod.mk.injEq] at h2
    obtain ⟨rfl, rfl⟩ := h2
    have hz' : (t1 != 0) = true := by simpa using hz
    have hz2 : (t1 == 0) = false := by simpa using hz
    go_enter Try.func22, Try.ntmps22
    go_wp2_with (fail)
    rw [← HW.out]
    refine (spec_l10Asked.calls k A0 c0 l0 w.heap.size a1_0 a1_1 a1_2 t1 t2 t3 t4 w W HI.out HB.out (Kd.C_below HR.out HB.out) HC.out HF.out H1.out).mono ?_
    rintro e w1 ⟨rfl, hI1, hb1, hk1⟩
    have HK1 := hk1.blk HK.out (by omega) (by simp)
    have hc0 := blk_cell HK1 0
    have hc1 := blk_cell HK1 1
    have hf0 := blk_frozen HK1 0
    have hf1 := blk_frozen HK1 1
    have HB1 := Aside0.mk hb1
    clear hI1 hb1 hk1 HK1
    go_wp2_with (fail)
    refine bodyPost_ret (by simp [results, Try.results22, go_sem, hc0, hc1, hf0, hf1]; try rfl) rfl ?_
    exact ⟨rfl, below_set (below_set HB1.out (by omega)) (by omega)⟩

end Go.Proofs.Ytcinaflmpdmdaaa.Q
end
section
namespace Go.Proofs.Ytcinaflmpdmdaaa.Q
open Go.RowKit Go.Proofs.YtcinaflmpdmdaaaW.PrintWords Go.Proofs.YtcinaflmpdmdaaaW.PrintLast Go.Proofs.YtcinaflmpdmdaaaW.PrintMore Go.Proofs.Ytcinaflmpdmdaaa.L
def layF (wd : Int) (ch : Bool) (sh : Int) : Int := if (1 ≤ wd ∧ wd ≤ 40) ∧ (0 ≤ sh ∧ sh ≤ 400) then (if ch = true ∨ sh = 0 then 0 else 1) else 3
theorem layF_zero {wd : Int} {ch : Bool} {sh : Int} (h : layF wd ch sh = 0) : 1 ≤ wd ∧ wd ≤ 40 ∧ 0 ≤ sh ∧ sh ≤ 400 ∧ (ch = true ∨ sh = 0) := by
  unfold layF at h
  split at h
  · split at h
    · rename_i h1 h2
      exact ⟨h1.1.1, h1.1.2, h1.2.1, h1.2.2, h2⟩
    · cases h
  · cases h
theorem i_layout (wd : Int) (ch : Bool) (sh : Int) : Ev (fun k => impl_LayoutFault.f k wd ch sh) (layF wd ch sh) := by
  unfold impl_LayoutFault.f layF
  simp only [within_eq, Option.bind_some]
  by_cases h1 : 1 ≤ wd ∧ wd ≤ 40
  · rw [show decide (1 ≤ wd ∧ wd ≤ 40) = true from decide_eq_true h1]
    refine Ev.pos rfl (Ev.succ ?_)
    simp only [impl_LayoutFault.j0]
    by_cases h2 : 0 ≤ sh ∧ sh ≤ 400
    · rw [if_pos (show (1 ≤ wd ∧ wd ≤ 40) ∧ (0 ≤ sh ∧ sh ≤ 400) from ⟨h1, h2⟩), show decide (0 ≤ sh ∧ sh ≤ 400) = true from decide_eq_true h2]
      refine Ev.neg (by simp) (Ev.one ?_)
      cases ch <;> by_cases h3 : sh = 0 <;> simp [h3]
    · rw [if_neg (fun h : (1 ≤ wd ∧ wd ≤ 40) ∧ (0 ≤ sh ∧ sh ≤ 400) => h2 h.2), show decide (0 ≤ sh ∧ sh ≤ 400) = false from decide_eq_false h2]
      exact Ev.pos rfl (Ev.now _)
  · rw [if_neg (fun h : (1 ≤ wd ∧ wd ≤ 40) ∧ (0 ≤ sh ∧ sh ≤ 400) => h1 h.1), show decide (1 ≤ wd ∧ wd ≤ 40) = false from decide_eq_false h1]
    refine Ev.neg (by simp) (Ev.succ ?_)
    simp only [impl_LayoutFault.j0]
    exact Ev.pos trivial (Ev.now _)
theorem s_layout (wd : Int) (ch : Bool) (sh : Int) : Ev (fun k => spec_l10Fault.f k wd ch sh) (layF wd ch sh, wd, ch, sh) := by
  unfold spec_l10Fault.f layF
  simp only [l1In_eq, Option.bind_some]
  by_cases h1 : 1 ≤ wd ∧ wd ≤ 40
  · rw [show decide (1 ≤ wd ∧ wd ≤ 40) = true from decide_eq_true h1]
    refine Ev.pos rfl (Ev.succ ?_)
    simp only [spec_l10Fault.j0]
    by_cases h2 : 0 ≤ sh ∧ sh ≤ 400
    · rw [if_pos (show (1 ≤ wd ∧ wd ≤ 40) ∧ (0 ≤ sh ∧ sh ≤ 400) from ⟨h1, h2⟩), show decide (0 ≤ sh ∧ sh ≤ 400) = true from decide_eq_true h2]
      refine Ev.neg (by simp) (Ev.one ?_)
      cases ch <;> by_cases h3 : sh = 0 <;> simp [h3]
    · rw [if_neg (fun h : (1 ≤ wd ∧ wd ≤ 40) ∧ (0 ≤ sh ∧ sh ≤ 400) => h2 h.2), show decide (0 ≤ sh ∧ sh ≤ 400) = false from decide_eq_false h2]
      exact Ev.pos rfl (Ev.now _)
  · rw [if_neg (fun h : (1 ≤ wd ∧ wd ≤ 40) ∧ (0 ≤ sh ∧ sh ≤ 400) => h1 h.1), show decide (1 ≤ wd ∧ wd ≤ 40) = false from decide_eq_false h1]
    refine Ev.neg (by simp) (Ev.succ ?_)
    simp only [spec_l10Fault.j0]
    exact Ev.pos trivial (Ev.now _)
/-- How many rows a line of so many cells has. -/
def rowN (n : Nat) (wd : Int) (ch : Bool) : Int := if ch = true then 1 else if (n : Int) = 0 then 1 else ((n : Int) + wd - 1) / wd
theorem rowN_in {n : Nat} {wd : Int} (ch : Bool) (h0 : 1 ≤ wd) : 1 ≤ rowN n wd ch ∧ rowN n wd ch ≤ n + 1 := by
  unfold rowN
  split
  · omega
  · split
    · omega
    · have h1 : 1 ≤ ((n : Int) + wd - 1) / wd := by
        rw [Int.le_ediv_iff_mul_le (by omega)]
        omega
      have h2 : ((n : Int) + wd - 1) / wd ≤ n := by
        apply Int.ediv_le_of_le_mul (by omega)
        have : (n : Int) * 1 ≤ n * wd := Int.mul_le_mul_of_nonneg_left h0 (by omega)
        have h3 : (n : Int) * wd = (n : Int) * (wd - 1) + n := by rw [Int.mul_sub, Int.mul_one]; omega
        have h4 : 1 * (wd - 1) ≤ (n : Int) * (wd - 1) := Int.mul_le_mul_of_nonneg_right (by omega) (by omega)
        omega
      omega
theorem rowW (n : Nat) (hn : n ≤ 16777216) (wd : Int) (h0 : 1 ≤ wd) (h1 : wd ≤ 40) : wrap64 (Int.tdiv (wrap64 ((wrap64 ((n : Int) + wd)) - 1)) wd) = ((n : Int) + wd - 1) / wd := by
  rw [w64 (x := (n : Int) + wd) (by omega) (by omega), w64 (x := (n : Int) + wd - 1) (by omega) (by omega), Int.tdiv_eq_ediv_of_nonneg (by omega)]
  have a : 0 ≤ ((n : Int) + wd - 1) / wd := Int.ediv_nonneg (by omega) (by omega)
  have b : ((n : Int) + wd - 1) / wd ≤ (n : Int) + wd - 1 := Int.ediv_le_self _ (by omega)
  exact w64 (by omega) (by omega)
theorem cellsS_len (l : List Int) : (cellsS l).length ≤ 4 * l.length := by rw [cellsS, List.length_map]; exact M.cellsOf_len l
theorem i_rowN (l : List Int) (ho : M.lineOk l = true) (wd : Int) (ch : Bool) (sh : Int) (h0 : 1 ≤ wd) (h1 : wd ≤ 40) : impl_rowCount.f l wd ch sh = some (rowN (cellsS l).length wd ch) := by
  have hl := M.lineOk_len ho
  have hc := cellsS_len l
  unfold impl_rowCount.f impl_cells.f spec_l1Cells.f rowN
  rw [if_pos ho]
  simp only [Option.bind_some]
  cases ch with
  | true => rfl
  | false =>
    simp only [Bool.false_eq_true, if_false]
    by_cases h : ((cellsS l).length : Int) = 0
    · rw [if_pos h, if_pos h]
    · rw [if_neg h, if_neg h, if_neg (by omega), rowW _ (by omega) wd h0 h1]
theorem s_rowN (l : List Int) (ho : M.lineOk l = true) (wd : Int) (ch : Bool) (sh : Int) (h0 : 1 ≤ wd) (h1 : wd ≤ 40) : spec_l10Count.f l wd ch sh = some (rowN (cellsS l).length wd ch, wd, ch, sh) := by
  have hl := M.lineOk_len ho
  have hc := cellsS_len l
  unfold spec_l10Count.f spec_l1Cells.f rowN
  rw [if_pos ho]
  simp only [Option.bind_some]
  cases ch with
  | true => rfl
  | false =>
    simp only [Bool.false_eq_true, if_false]
    by_cases h : ((cellsS l).length : Int) = 0
    · rw [if_pos h, if_pos h]
    · rw [if_neg h, if_neg h, if_neg (by omega), rowW _ (by omega) wd h0 h1]
def askF (n : Nat) (wd : Int) (ch : Bool) (sh : Int) : Int := if layF wd ch sh = 0 then (if (n : Int) > 400 then 2 else 0) else layF wd ch sh
theorem askF_bad {n : Nat} {wd : Int} {ch : Bool} {sh : Int} (h : ¬ layF wd ch sh = 0) : askF n wd ch sh = layF wd ch sh := if_neg h
theorem askF_long {n : Nat} {wd : Int} {ch : Bool} {sh : Int} (h : layF wd ch sh = 0) (h2 : (n : Int) > 400) : askF n wd ch sh = 2 := (if_pos h).trans (if_pos h2)
theorem askF_ok {n : Nat} {wd : Int} {ch : Bool} {sh : Int} (h : layF wd ch sh = 0) (h2 : ¬ (n : Int) > 400) : askF n wd ch sh = 0 := (if_pos h).trans (if_neg h2)
theorem i_rowCode (l : List Int) (wd : Int) (ch : Bool) (sh : Int) : Ev (fun k => impl_rowCode.f k l wd ch sh) (askF l.length wd ch sh) := by
  unfold impl_rowCode.f impl_isLong.f
  refine Ev.bind (i_layout wd ch sh) ?_
  by_cases h : layF wd ch sh = 0
  · refine Ev.pos h ?_
    simp only [Option.bind_some]
    by_cases h2 : (l.length : Int) > 400
    · rw [askF_long h h2]
      exact Ev.pos (by simpa using h2) (Ev.now _)
    · rw [askF_ok h h2]
      exact Ev.neg (by simpa using h2) (Ev.now _)
  · rw [askF_bad h]
    exact Ev.neg h (Ev.now _)
theorem s_asked (l : List Int) (wd : Int) (ch : Bool) (sh : Int) : Ev (fun k => spec_l10Asked.f k l wd ch sh) (askF l.length wd ch sh, wd, ch, sh) := by
  unfold spec_l10Asked.f
  refine Ev.bind (s_layout wd ch sh) ?_
  by_cases h : layF wd ch sh = 0
  · refine Ev.pos h ?_
    by_cases h2 : (l.length : Int) > 400
    · rw [askF_long h h2]
      exact Ev.pos h2 (Ev.now _)
    · rw [askF_ok h h2]
      exact Ev.neg h2 (Ev.now _)
  · rw [askF_bad h]
    exact Ev.neg h (Ev.now _)
theorem rowCount_same (l : List Int) (ho : M.lineOk l = true) (wd : Int) (ch : Bool) (sh : Int) : ∃ r, Ev (fun k => spec_RowCount.f k l wd ch sh) r ∧ Ev (fun k => impl_RowCount.f k l wd ch sh) r := by
  by_cases h : layF wd ch sh = 0
  · obtain ⟨a, b, _⟩ := layF_zero h
    by_cases h2 : (l.length : Int) > 400
    · refine ⟨(2, 0), ?_, ?_⟩
      · unfold spec_RowCount.f
        have := s_asked l wd ch sh
        rw [askF_long h h2] at this
        exact Ev.bind this (Ev.neg (by simp) (Ev.now _))
      · unfold impl_RowCount.f
        have := i_rowCode l wd ch sh
        rw [askF_long h h2] at this
        exact Ev.bind this (Ev.neg (by simp) (Ev.now _))
    · refine ⟨(0, rowN (cellsS l).length wd ch), ?_, ?_⟩
      · unfold spec_RowCount.f
        have := s_asked l wd ch sh
        rw [askF_ok h h2] at this
        exact Ev.bind this (Ev.pos rfl (Ev.bind0 (s_rowN l ho wd ch sh a b) (Ev.now _)))
      · unfold impl_RowCount.f
        have := i_rowCode l wd ch sh
        rw [askF_ok h h2] at this
        exact Ev.bind this (Ev.pos rfl (Ev.bind0 (i_rowN l ho wd ch sh a b) (Ev.now _)))
  · refine ⟨(layF wd ch sh, 0), ?_, ?_⟩
    · unfold spec_RowCount.f
      have := s_asked l wd ch sh
      rw [askF_bad h] at this
      exact Ev.bind this (Ev.neg h (Ev.now _))
    · unfold impl_RowCount.f
      have := i_rowCode l wd ch sh
      rw [askF_bad h] at this
      exact Ev.bind this (Ev.neg h (Ev.now _))
end Go.Proofs.Ytcinaflmpdmdaaa.Q
end
section
namespace Go.Proofs.Ytcinaflmpdmdaaa.Q
open Go.RowKit Go.Proofs.YtcinaflmpdmdaaaW.PrintWords Go.Proofs.YtcinaflmpdmdaaaW.PrintLast Go.Proofs.YtcinaflmpdmdaaaW.PrintMore
attribute [local go_sem] max2_int min2_int max_two min_two max_three min_three max_four min_four   -- for this text's walks alone
set_option linter.unusedVariables false
set_option linter.unusedSimpArgs false

/-! ### impl_Cell: function 75 -/
def impl_Cell.f (l0 : List S46) : Option (List S46) := if l0.length * 24 ≤ 140737488351232 then some l0 else none
theorem clone_cell (l0 : List S46) (h : l0.length * 24 ≤ 140737488351232) : impl_Cell.f l0 = some l0 := if_pos h
theorem clone_cell_info : (Try.prog.info? 46).map (fun i => (i.zero, i.size, i.bytes)) = some (some (.agg #[.int .i64 0, .int .i64 0, .int .i64 0]), 3, 24) := by kernel_rfl
set_option maxHeartbeats 1000000 in
set_option maxRecDepth 100000 in
theorem impl_Cell.calls (A0 : Option Addr) (c0 : Nat) (l0 : List S46) (r : List S46) (w : World) (hr0 : Kd.C k46 w A0 l0.length l0) (hc0 : l0.length ≤ c0) (h : impl_Cell.f l0 = some r) :
    Calls Try.prog 75 #[.slice A0 l0.length c0] w fun e w' => ∃ v0_ : Value, e = .returned (v0_) ∧ Kd.R k46 46 w' w.heap.size (fun _ => True) v0_ r ∧ Below w.heap.size w w' := by
  unfold impl_Cell.f at h
  by_cases hl : l0.length * 24 ≤ 140737488351232
  case neg => rw [if_neg hl] at h; cases h
  rw [if_pos hl] at h
  obtain rfl := Option.some.inj h
  have HR0 := Aside0.mk hr0
  have HL := Aside0.mk hl
  have HB := Aside0.mk (Below.refl w.heap.size w)
  clear hr0 hl h
  have heq := fun (W : World) (a : Option Addr) (n c : Nat) => Lib.run_eql_slice_nil (P := Try.prog) W 38 46 a n c 0 0 Try.underlying38
  cases A0 with
  | none =>
    have h0 : l0 = [] := by
      cases l0 with
      | nil => rfl
      | cons x xs =>
        obtain ⟨ad, e, _⟩ := HR0.out.2.2 (by simp)
        cases e
    subst h0
    go_enter Try.func75, Try.ntmps75
    go_wp2
    go_ret
    exact ⟨_, rfl, Kd.R_nil _ _ _ _ _, Below.refl _ _⟩
  | some ad0 =>
    obtain ⟨y1, hy1⟩ : ∃ y_ : List S46, y_ = ([] : List S46) := ⟨_, rfl⟩
    have Ny1 := Aside0.mk hy1
    clear hy1
    have LM : Aside0 ((y1.length + l0.length) * 24 ≤ 140737488355328) := ⟨by rw [Ny1.out]; simp only [List.length_nil, Nat.zero_add]; have := HL.out; omega⟩
    have HF : Aside0 (y1 ++ l0 = l0) := ⟨by rw [Ny1.out]; rfl⟩
    go_enter Try.func75, Try.ntmps75
    go_wp2_with (first | ((with_reducible refine gate_dst (N := 5) rfl ?_); refine Kd.R_lit k46 _ 46 ?hg (N := 5) ?hd (xs := ([] : List S46)) (inner := []) (ok := fun _ => True) (okp := fun _ => True) ?hr ?hp (fun _ hk => hk) trivial (Below.refl _ _) (Nat.le_refl _) (by simp) ?_; (case hd => rfl); (case hg => rfl); (case hr => first | (go_simp; done) | (go_simp; rfl)); (case hp => exact (Reps.none _ _)); intro v102 w3 ho4 hb hg_ hnew_; clear hg_ hnew_; rw [← Ny1.out] at ho4; have n0_ := Aside0.mk (Kd.R_lower ho4 (below_size (by repeat (first | (with_reducible first | exact HB.out | apply below_alloc | apply pw_below_drewN | apply below_drew1) | exact HB.out)))); have n1_ := Aside0.mk (below_step (by repeat (first | (with_reducible first | exact HB.out | apply below_alloc | apply pw_below_drewN | apply below_drew1) | exact HB.out)) hb); clear HB; have HO103 := n0_; have HB := n1_; clear n0_ n1_; clear hb ho4) | ((with_reducible refine gate_builtin (b := .append) (xs := #[.tmp 5, .tmp 6]) rfl ?_); at_builtin; refine Kd.R_append_rows k46 (w0 := w) w.heap.size rfl (.tmp 5) (.tmp 6) 38 46 (.agg #[.int .i64 0, .int .i64 0, .int .i64 0]) 24 rfl Try.underlying38 clone_cell_info rfl (by decide) (by omega) v102 y1 l0 _ _ _ (fun _ => True) (fun _ => False) rfl rfl ?aO ?aR (fun _ _ h => h) (fun _ h => h.elim) ?aF ?aB ?aS ?aL ?_; (case aR => repeat (first | exact (Kd.C_below HR0.out HB.out) | (with_reducible refine Kd.C_alloc ?_ _) | (with_reducible refine Kd.C_drewN ?_ _) | (with_reducible refine Kd.C_drew ?_))); (case aB => exact (by repeat (first | (with_reducible first | exact HB.out | apply below_alloc | apply pw_below_drewN | apply below_drew1) | exact HB.out))); (case aF => exact (fun _ _ => trivial)); (case aO => exact (by (with_reducible repeat (first | apply Kd.R_alloc | apply Kd.R_drewN | apply Kd.R_drew)); exact HO103.out)); (case aS => exact (below_size (by repeat (first | (with_reducible first | exact HB.out | apply below_alloc | apply pw_below_drewN | apply below_drew1) | exact HB.out)))); (case aL => exact LM.out); intro v105 w5 ho hb hg hat; rw [HF.out] at ho; have n0_ := Aside0.mk (hb); have n1_ := Aside0.mk (ho); clear HB; clear HO103; have HB := n0_; have HO106 := n1_; clear n0_ n1_; clear ho hb hg hat))
    go_ret
    exact ⟨_, rfl, HO106.out, HB.out⟩
theorem clone_cell_calls (A0 : Option Addr) (c0 : Nat) (l0 : List S46) (w : World) (hr0 : Kd.C k46 w A0 l0.length l0) (hc0 : l0.length ≤ c0) (h : l0.length * 24 ≤ 140737488351232) :
    Calls Try.prog 75 #[.slice A0 l0.length c0] w fun e w' => ∃ v0_ : Value, e = .returned (v0_) ∧ Kd.R k46 46 w' w.heap.size (fun _ => True) v0_ l0 ∧ Below w.heap.size w w' := impl_Cell.calls A0 c0 l0 l0 w hr0 hc0 (clone_cell l0 h)

end Go.Proofs.Ytcinaflmpdmdaaa.Q
end
section
namespace Go.Proofs.Ytcinaflmpdmdaaa.M
open Go.RowKit
/-- A piece of a row, as the program cuts it: at its address and with its capacity. -/
theorem Row.mid {α : Type} {enc : α → List Value} {k : Nat} {w : World} {A : Option Addr} {xs : List α} {c lo hi : Nat} (h : Row enc k w A xs) (h1 : lo ≤ hi) (h2 : hi ≤ xs.length) (hc : xs.length ≤ c) : Row enc k w (if c = lo then A else A.map (·.add (lo * k))) ((xs.take hi).drop lo) := fun i x hx => by
  rw [List.getElem?_drop, List.getElem?_take] at hx
  split at hx
  · rename_i hlt
    obtain ⟨ad, rfl, ha⟩ := h (lo + i) x hx
    rw [if_neg (by omega)]
    refine ⟨ad.add (lo * k), rfl, ?_⟩
    rw [add_add, ← Nat.add_mul]
    exact ha
  · cases hx
def cutFrom (n : Nat) (wd : Int) (ch : Bool) (sh row : Int) : Int := if ch = true then (if (n : Int) < sh then n else sh) else (if (n : Int) < row * wd then n else row * wd)
def cutTo (n : Nat) (wd : Int) (ch : Bool) (sh row : Int) : Int := if (n : Int) < cutFrom n wd ch sh row + wd then n else cutFrom n wd ch sh row + wd
theorem cut_in {n : Nat} {wd : Int} {ch : Bool} {sh row : Int} (h1 : 1 ≤ wd) (h3 : 0 ≤ sh) (h5 : 0 ≤ row) : 0 ≤ cutFrom n wd ch sh row ∧ cutFrom n wd ch sh row ≤ cutTo n wd ch sh row ∧ cutTo n wd ch sh row ≤ n ∧ cutFrom n wd ch sh row ≤ n := by
  have hm : 0 ≤ row * wd := Int.mul_nonneg h5 (by omega)
  unfold cutTo cutFrom
  repeat' split
  all_goals omega
theorem info_cel : Try.prog.info? 46 = some ((Try.prog.info? 46).get (by kernel_rfl)) := by kernel_rfl
attribute [local go_sem] Go.Proofs.YtcinaflmpdmdaaaW.PrintMore.min2_int Go.Proofs.YtcinaflmpdmdaaaW.PrintMore.min_two in
set_option maxHeartbeats 1000000 in
theorem rowCells_c (A : Option Addr) (n c : Nat) (xs : List Int) (wd : Int) (ch : Bool) (sh row : Int) (w : World) (hn : xs.length = n) (hx : Row eU 1 w A xs) (hB : Byt xs) (hc : n ≤ c) (hm : n ≤ 1048576) (h1 : 1 ≤ wd) (h2 : wd ≤ 40) (h3 : 0 ≤ sh) (h4 : sh ≤ 400) (h5 : 0 ≤ row) (h6 : row ≤ 16777216)
    (R : Ending → World → Prop) (h : ∀ A' m c' w', m = (((cellsOf xs).take (cutTo (cellsOf xs).length wd ch sh row).toNat).drop (cutFrom (cellsOf xs).length wd ch sh row).toNat).length → Row eCel 3 w' A' (((cellsOf xs).take (cutTo (cellsOf xs).length wd ch sh row).toNat).drop (cutFrom (cellsOf xs).length wd ch sh row).toNat) → m ≤ c' → c' ≤ maxLen → Below w.heap.size w w' → R (.returned (.slice A' m c')) w') :
    Calls Try.prog 76 #[.slice A n c, .agg #[.int .i64 wd, .bool ch, .int .i64 sh], .int .i64 row] w R := by
  have H := Lib.hid h
  have HX := Lib.hid hx
  have HB := Lib.hid hB
  have HN := Lib.hid hn
  have hlen := cellsOf_len xs
  rw [hn] at hlen
  clear h hx hB hn
  obtain ⟨m, hm'⟩ : ∃ m, (cellsOf xs).length = m := ⟨_, rfl⟩
  rw [hm'] at hlen
  have HM := Lib.hid hm'
  clear hm'
  obtain ⟨k0, k1, k2, k3⟩ := cut_in (n := m) (wd := wd) (ch := ch) (sh := sh) (row := row) h1 h3 h5
  obtain ⟨W, hW⟩ : ∃ W, W = w.alloc (Obj.cells #[.int .i64 wd, .bool ch, .int .i64 sh] 25) := ⟨_, rfl⟩
  obtain ⟨b1, f1, hz, G0⟩ := box1 _ _ _ W hW
  have HW := Lib.hid hW
  clear hW f1
  have hrw : 0 ≤ row * wd ∧ row * wd ≤ 671088640 := by
    refine ⟨Int.mul_nonneg h5 (by omega), ?_⟩
    have a : row * wd ≤ row * 40 := Int.mul_le_mul_of_nonneg_left h2 h5
    omega
  obtain ⟨lo, hlo⟩ : ∃ lo, cutFrom m wd ch sh row = lo := ⟨_, rfl⟩
  obtain ⟨hi, hhi⟩ : ∃ hi, cutTo m wd ch sh row = hi := ⟨_, rfl⟩
  rw [hlo] at k0 k1 k3
  rw [hhi] at k1 k2
  have e1 : lo = (if ch = true then (if (m : Int) < sh then (m : Int) else sh) else (if (m : Int) < row * wd then (m : Int) else row * wd)) := hlo.symm
  have e2 : hi = (if (m : Int) < lo + wd then (m : Int) else lo + wd) := by rw [← hhi, ← hlo]; rfl
  have HLO := Lib.hid hlo
  have HHI := Lib.hid hhi
  clear hlo hhi
  have E1 := Lib.hid e1
  have E2 := Lib.hid e2
  clear e1 e2
  (change Calls _ _ _ _ (Fin R); go_enter Try.func76, Try.ntmps76)
  go_wp2_with (fail)
  rw [← HW.out]
  refine cells_c A n c xs _ HN.out (HX.out.below G0) HB.out hc hm _ ?_
  intro A1 c1 w1 ho1 hc1 hm1 hb1
  rw [HM.out] at ho1 hc1 ⊢
  have HR1 := Lib.hid ho1.rowOf
  have G1 := G0.trans (hb1.mono G0.size)
  replace b1 := blk_keep b1 (by omega) hb1
  clear ho1 hb1
  have hsl := fun (lo' hi' : Int) (a : 0 ≤ lo') (b : lo' ≤ hi') (c' : hi' ≤ m) => Go.Proofs.YtcinaflmpdmdaaaW.PrintWords.cut_mid (P := Try.prog) 38 46 .i64 .i64 Try.underlying38 info_cel 3 (by kernel_rfl) A1 m c1 lo' hi' a b c' hc1
  obtain ⟨A2, hA2⟩ : ∃ A2, (if c1 = lo.toNat then A1 else A1.map (·.add (lo.toNat * 3))) = A2 := ⟨_, rfl⟩
  obtain ⟨n2, hn2⟩ : ∃ n2, hi.toNat - lo.toNat = n2 := ⟨_, rfl⟩
  obtain ⟨c2, hc2⟩ : ∃ c2, c1 - lo.toNat = c2 := ⟨_, rfl⟩
  have hs0 := hsl lo hi k0 k1 k2
  rw [hA2, hn2, hc2] at hs0
  have HSL := Lib.hid hs0
  clear hsl hs0
  have HEND : Hid (∀ (w' : World), Below w.heap.size w w' → Below w1.heap.size w1 w' → Fin R (.returned (.slice A2 n2 c2)) w') := fun w' hb hb' => by
    have := H.out A2 n2 c2 w'
    rw [HM.out, HLO.out, HHI.out] at this
    subst hA2 hn2 hc2
    refine this ?_ ?_ (by omega) (by unfold maxLen at hm1 ⊢; omega) hb
    · rw [List.length_drop, List.length_take, HM.out]; omega
    · exact (HR1.out.below hb').mid (by omega) (by rw [HM.out]; omega) (by rw [HM.out]; exact hc1)
  clear hA2 hn2 hc2
  cases ch
  · by_cases g1 : (m : Int) < row * wd
    · have hlo2 : lo = (m : Int) := by rw [E1.out]; simp [g1]
      subst hlo2
      by_cases g2 : (m : Int) < (m : Int) + wd
      · have hhi2 : hi = (m : Int) := by rw [E2.out]; simp [g2]
        subst hhi2
        have hs := HSL.out
        go_wp2_with (fail)
        go_ret
        exact HEND.out _ G1 (Below.refl _ _)
      · exact absurd g2 (by omega)
    · have hlo2 : lo = row * wd := by rw [E1.out]; simp [g1]
      subst hlo2
      by_cases g2 : (m : Int) < row * wd + wd
      · have hhi2 : hi = (m : Int) := by rw [E2.out]; simp [g2]
        subst hhi2
        have hs := HSL.out
        go_wp2_with (fail)
        go_ret
        exact HEND.out _ G1 (Below.refl _ _)
      · have hhi2 : hi = row * wd + wd := by rw [E2.out]; simp [g2]
        subst hhi2
        have hs := HSL.out
        go_wp2_with (fail)
        go_ret
        exact HEND.out _ G1 (Below.refl _ _)
  · by_cases g1 : (m : Int) < sh
    · have hlo2 : lo = (m : Int) := by rw [E1.out]; simp [g1]
      subst hlo2
      by_cases g2 : (m : Int) < (m : Int) + wd
      · have hhi2 : hi = (m : Int) := by rw [E2.out]; simp [g2]
        subst hhi2
        have hs := HSL.out
        go_wp2_with (fail)
        go_ret
        exact HEND.out _ G1 (Below.refl _ _)
      · exact absurd g2 (by omega)
    · have hlo2 : sh = lo := by rw [E1.out]; simp [g1]
      subst hlo2
      by_cases g2 : (m : Int) < sh + wd
      · have hhi2 : hi = (m : Int) := by rw [E2.out]; simp [g2]
        subst hhi2
        have hs := HSL.out
        go_wp2_with (fail)
        go_ret
        exact HEND.out _ G1 (Below.refl _ _)
      · have hhi2 : hi = sh + wd := by rw [E2.out]; simp [g2]
        subst hhi2
        have hs := HSL.out
        go_wp2_with (fail)
        go_ret
        exact HEND.out _ G1 (Below.refl _ _)
theorem l1Min_v (a b r : Int) (hr : r = if a < b then a else b) (w : World) : Calls Try.prog 114 #[.int .i64 a, .int .i64 b] w fun e w' => e = .returned (.int .i64 r) ∧ w' = w := by
  by_cases h : a < b
  · rw [if_pos h] at hr
    subst hr
    go_enter Try.func114, Try.ntmps114
    go_wp2
    go_ret
    exact ⟨rfl, rfl⟩
  · rw [if_neg h] at hr
    subst hr
    go_enter Try.func114, Try.ntmps114
    go_wp2
    go_ret
    exact ⟨rfl, rfl⟩
set_option maxHeartbeats 1000000 in
theorem l10Cells_c (A : Option Addr) (n c : Nat) (xs : List Int) (wd : Int) (ch : Bool) (sh row : Int) (g : Nat) (w : World) (hb3 : ∀ i, w.cell? ⟨g, i, none⟩ = #[Value.int .i64 wd, .bool ch, .int .i64 sh][i]?) (hg : g < w.heap.size) (hn : xs.length = n) (hx : Row eU 1 w A xs) (hB : Byt xs) (hm : n ≤ 1048576) (h1 : 1 ≤ wd) (h2 : wd ≤ 40) (h3 : 0 ≤ sh) (h4 : sh ≤ 400) (h5 : 0 ≤ row) (h6 : row ≤ 16777216)
    (R : Ending → World → Prop) (h : ∀ A' m c' w', m = (((cellsOf xs).take (cutTo (cellsOf xs).length wd ch sh row).toNat).drop (cutFrom (cellsOf xs).length wd ch sh row).toNat).length → Row eCel 3 w' A' (((cellsOf xs).take (cutTo (cellsOf xs).length wd ch sh row).toNat).drop (cutFrom (cellsOf xs).length wd ch sh row).toNat) → m ≤ c' → c' ≤ maxLen → Below w.heap.size w w' → R (.returned (.slice A' m c')) w') :
    Calls Try.prog 83 #[.slice A n c, .pointer (some ⟨g, 0, none⟩), .int .i64 row] w R := by
  have H := Lib.hid h
  have HX := Lib.hid hx
  have HB := Lib.hid hB
  have HN := Lib.hid hn
  have hlen := cellsOf_len xs
  rw [hn] at hlen
  clear h hx hB hn
  obtain ⟨m, hm'⟩ : ∃ m, (cellsOf xs).length = m := ⟨_, rfl⟩
  rw [hm'] at hlen
  have HM := Lib.hid hm'
  clear hm'
  obtain ⟨k0, k1, k2, k3⟩ := cut_in (n := m) (wd := wd) (ch := ch) (sh := sh) (row := row) h1 h3 h5
  have hrw : 0 ≤ row * wd ∧ row * wd ≤ 671088640 := by
    refine ⟨Int.mul_nonneg h5 (by omega), ?_⟩
    have a : row * wd ≤ row * 40 := Int.mul_le_mul_of_nonneg_left h2 h5
    omega
  obtain ⟨lo, hlo⟩ : ∃ lo, cutFrom m wd ch sh row = lo := ⟨_, rfl⟩
  obtain ⟨hi, hhi⟩ : ∃ hi, cutTo m wd ch sh row = hi := ⟨_, rfl⟩
  rw [hlo] at k0 k1 k3
  rw [hhi] at k1 k2
  have e1 : lo = (if ch = true then (if (m : Int) < sh then (m : Int) else sh) else (if (m : Int) < row * wd then (m : Int) else row * wd)) := hlo.symm
  have e2 : hi = (if (m : Int) < lo + wd then (m : Int) else lo + wd) := by rw [← hhi, ← hlo]; rfl
  have HLO := Lib.hid hlo
  have HHI := Lib.hid hhi
  clear hlo hhi
  have E1 := Lib.hid e1
  have E2 := Lib.hid e2
  clear e1 e2
  (change Calls _ _ _ _ (Fin R); go_enter Try.func83, Try.ntmps83)
  go_wp2_with (fail)
  refine l1Cells_c A n c xs _ HN.out HX.out HB.out hm _ ?_
  intro A1 c1 w1 ho1 hc1 hm1 hb1
  rw [HM.out] at ho1 hc1 ⊢
  have HR1 := Lib.hid ho1.rowOf
  have G1 := hb1
  replace hb3 := blk_keep hb3 hg hb1
  clear ho1 hb1
  have hsl := fun (lo' hi' : Int) (a : 0 ≤ lo') (b : lo' ≤ hi') (c' : hi' ≤ m) => Go.Proofs.YtcinaflmpdmdaaaW.PrintWords.cut_mid (P := Try.prog) 38 46 .i64 .i64 Try.underlying38 info_cel 3 (by kernel_rfl) A1 m c1 lo' hi' a b c' hc1
  obtain ⟨A2, hA2⟩ : ∃ A2, (if c1 = lo.toNat then A1 else A1.map (·.add (lo.toNat * 3))) = A2 := ⟨_, rfl⟩
  obtain ⟨n2, hn2⟩ : ∃ n2, hi.toNat - lo.toNat = n2 := ⟨_, rfl⟩
  obtain ⟨c2, hc2⟩ : ∃ c2, c1 - lo.toNat = c2 := ⟨_, rfl⟩
  have hs0 := hsl lo hi k0 k1 k2
  rw [hA2, hn2, hc2] at hs0
  have HSL := Lib.hid hs0
  clear hsl hs0
  have HEND : Hid (∀ (w' : World), Below w.heap.size w w' → Below w1.heap.size w1 w' → Fin R (.returned (.slice A2 n2 c2)) w') := fun w' hb hb' => by
    have := H.out A2 n2 c2 w'
    rw [HM.out, HLO.out, HHI.out] at this
    subst hA2 hn2 hc2
    refine this ?_ ?_ (by omega) (by unfold maxLen at hm1 ⊢; omega) hb
    · rw [List.length_drop, List.length_take, HM.out]; omega
    · exact (HR1.out.below hb').mid (by omega) (by rw [HM.out]; omega) (by rw [HM.out]; exact hc1)
  clear hA2 hn2 hc2
  have M2 := E2
  cases ch
  · have M1 : Hid (lo = if row * wd < (m : Int) then row * wd else (m : Int)) := by
      have := E1.out
      simp only [Bool.false_eq_true, if_false] at this
      change _ = _
      rw [this]
      split <;> split <;> omega
    by_cases g1 : (m : Int) < row * wd
    · have hlo2 : lo = (m : Int) := by rw [E1.out]; simp [g1]
      subst hlo2
      by_cases g2 : (m : Int) < (m : Int) + wd
      · have hhi2 : hi = (m : Int) := by rw [E2.out]; simp [g2]
        subst hhi2
        have hs := HSL.out
        go_wp2_with (first | (go_at_call 114; (with_reducible refine (l1Min_v _ _ _ M1.out _).mono ?_); rintro e w' ⟨rfl, rfl⟩) | (go_at_call 114; (with_reducible refine (l1Min_v _ _ _ M2.out _).mono ?_); rintro e w' ⟨rfl, rfl⟩))
        go_ret
        exact HEND.out _ G1 (Below.refl _ _)
      · exact absurd g2 (by omega)
    · have hlo2 : lo = row * wd := by rw [E1.out]; simp [g1]
      subst hlo2
      by_cases g2 : (m : Int) < row * wd + wd
      · have hhi2 : hi = (m : Int) := by rw [E2.out]; simp [g2]
        subst hhi2
        have hs := HSL.out
        go_wp2_with (first | (go_at_call 114; (with_reducible refine (l1Min_v _ _ _ M1.out _).mono ?_); rintro e w' ⟨rfl, rfl⟩) | (go_at_call 114; (with_reducible refine (l1Min_v _ _ _ M2.out _).mono ?_); rintro e w' ⟨rfl, rfl⟩))
        go_ret
        exact HEND.out _ G1 (Below.refl _ _)
      · have hhi2 : hi = row * wd + wd := by rw [E2.out]; simp [g2]
        subst hhi2
        have hs := HSL.out
        go_wp2_with (first | (go_at_call 114; (with_reducible refine (l1Min_v _ _ _ M1.out _).mono ?_); rintro e w' ⟨rfl, rfl⟩) | (go_at_call 114; (with_reducible refine (l1Min_v _ _ _ M2.out _).mono ?_); rintro e w' ⟨rfl, rfl⟩))
        go_ret
        exact HEND.out _ G1 (Below.refl _ _)
  · have M1 : Hid (lo = if sh < (m : Int) then sh else (m : Int)) := by
      have := E1.out
      simp only [if_true] at this
      change _ = _
      rw [this]
      split <;> split <;> omega
    by_cases g1 : (m : Int) < sh
    · have hlo2 : lo = (m : Int) := by rw [E1.out]; simp [g1]
      subst hlo2
      by_cases g2 : (m : Int) < (m : Int) + wd
      · have hhi2 : hi = (m : Int) := by rw [E2.out]; simp [g2]
        subst hhi2
        have hs := HSL.out
        go_wp2_with (first | (go_at_call 114; (with_reducible refine (l1Min_v _ _ _ M1.out _).mono ?_); rintro e w' ⟨rfl, rfl⟩) | (go_at_call 114; (with_reducible refine (l1Min_v _ _ _ M2.out _).mono ?_); rintro e w' ⟨rfl, rfl⟩))
        go_ret
        exact HEND.out _ G1 (Below.refl _ _)
      · exact absurd g2 (by omega)
    · have hlo2 : sh = lo := by rw [E1.out]; simp [g1]
      subst hlo2
      by_cases g2 : (m : Int) < sh + wd
      · have hhi2 : hi = (m : Int) := by rw [E2.out]; simp [g2]
        subst hhi2
        have hs := HSL.out
        go_wp2_with (first | (go_at_call 114; (with_reducible refine (l1Min_v _ _ _ M1.out _).mono ?_); rintro e w' ⟨rfl, rfl⟩) | (go_at_call 114; (with_reducible refine (l1Min_v _ _ _ M2.out _).mono ?_); rintro e w' ⟨rfl, rfl⟩))
        go_ret
        exact HEND.out _ G1 (Below.refl _ _)
      · have hhi2 : hi = sh + wd := by rw [E2.out]; simp [g2]
        subst hhi2
        have hs := HSL.out
        go_wp2_with (first | (go_at_call 114; (with_reducible refine (l1Min_v _ _ _ M1.out _).mono ?_); rintro e w' ⟨rfl, rfl⟩) | (go_at_call 114; (with_reducible refine (l1Min_v _ _ _ M2.out _).mono ?_); rintro e w' ⟨rfl, rfl⟩))
        go_ret
        exact HEND.out _ G1 (Below.refl _ _)
end Go.Proofs.Ytcinaflmpdmdaaa.M
end
section
namespace Go.Proofs.Ytcinaflmpdmdaaa.Q
open Go.RowKit Go.Proofs.YtcinaflmpdmdaaaW.PrintWords Go.Proofs.YtcinaflmpdmdaaaW.PrintLast Go.Proofs.YtcinaflmpdmdaaaW.PrintMore
attribute [local go_sem] max2_int min2_int max_two min_two max_three min_three max_four min_four   -- for this text's walks alone
set_option linter.unusedVariables false
set_option linter.unusedSimpArgs false

/-! ### impl_RowCells: function 37 -/
def rowCut (C : List S46) (wd : Int) (ch : Bool) (sh row : Int) : List S46 := (C.take (M.cutTo C.length wd ch sh row).toNat).drop (M.cutFrom C.length wd ch sh row).toNat
def rowOk (l : List Int) (wd sh row : Int) : Bool := M.lineOk l && decide (1 ≤ wd ∧ wd ≤ 40 ∧ 0 ≤ sh ∧ sh ≤ 400 ∧ 0 ≤ row ∧ row ≤ 16777216)
theorem rowOk_all {l : List Int} {wd sh row : Int} (h : rowOk l wd sh row = true) : M.lineOk l = true ∧ 1 ≤ wd ∧ wd ≤ 40 ∧ 0 ≤ sh ∧ sh ≤ 400 ∧ 0 ≤ row ∧ row ≤ 16777216 := by
  simpa [rowOk] using h
theorem cellsS_len0 (l : List Int) : (cellsS l).length = (M.cellsOf l).length := by rw [cellsS, List.length_map]
theorem rowCut_map (l : List Int) (wd : Int) (ch : Bool) (sh row : Int) : (rowCut (cellsS l) wd ch sh row).map (fun s : S46 => (⟨s.f0, s.f1, s.f2⟩ : M.Cel)) = ((M.cellsOf l).take (M.cutTo (M.cellsOf l).length wd ch sh row).toNat).drop (M.cutFrom (M.cellsOf l).length wd ch sh row).toNat := by
  rw [rowCut, cellsS_len0, List.map_drop, List.map_take, cellsS_map]
theorem rowCut_len (l : List Int) (wd : Int) (ch : Bool) (sh row : Int) : (rowCut (cellsS l) wd ch sh row).length ≤ 4 * l.length := by
  rw [rowCut, List.length_drop, List.length_take, cellsS_len0]
  have := M.cellsOf_len l
  omega
theorem rowCut_C {w : World} {A : Option Addr} {l : List Int} {wd : Int} {ch : Bool} {sh row : Int} (hl : l.length ≤ 1048576) (h : M.Row M.eCel 3 w A (((M.cellsOf l).take (M.cutTo (M.cellsOf l).length wd ch sh row).toNat).drop (M.cutFrom (M.cellsOf l).length wd ch sh row).toNat)) :
    Kd.C k46 w A (rowCut (cellsS l) wd ch sh row).length (rowCut (cellsS l) wd ch sh row) :=
  M.C_of_row (f := fun s : S46 => (⟨s.f0, s.f1, s.f2⟩ : M.Cel)) rfl (fun w x => k46_mk w x) M.eCel_len (by have := rowCut_len l wd ch sh row; omega) (by rw [rowCut_map]; exact h)
def impl_RowCells.f (k : Nat) (l0 : List Int) (a1_0 : Int) (a1_1 : Bool) (a1_2 : Int) (a2 : Int) : Option (Int × (List S46)) :=
  (impl_rowCode.f k l0 a1_0 a1_1 a1_2).bind fun t => if t = 0 then (impl_rowCount.f l0 a1_0 a1_1 a1_2).bind fun n => (if 0 ≤ a2 ∧ a2 ≤ wrap64 (n - 1) then (if rowOk l0 a1_0 a1_2 a2 = true then some (0, rowCut (cellsS l0) a1_0 a1_1 a1_2 a2) else none) else some (3, [])) else some (t, [])
theorem impl_RowCells.mono : ∀ a0 a1 a2 a3 a4 k, LeO (impl_RowCells.f k a0 a1 a2 a3 a4) (impl_RowCells.f (k + 1) a0 a1 a2 a3 a4) := fun a0 a1 a2 a3 a4 k => LeO.bind (impl_rowCode.mono a0 a1 a2 a3 k) (fun _ => LeO.refl _)
set_option maxHeartbeats 2000000 in
theorem impl_RowCells.calls (k : Nat) (A0 : Option Addr) (c0 : Nat) (l0 : List Int) (a1_0 : Int) (a1_1 : Bool) (a1_2 : Int) (a2 : Int) (r1 : Int) (r2 : List (S46)) (w : World) (hr0 : Kd.C (Kd.int .u8) w A0 l0.length l0) (hc0 : l0.length ≤ c0) (h : impl_RowCells.f k l0 a1_0 a1_1 a1_2 a2 = some (r1, r2)) :
    Calls Try.prog 37 #[.slice A0 l0.length c0, .agg #[.int .i64 a1_0, .bool a1_1, .int .i64 a1_2], .int .i64 a2] w fun e w' => ∃ v1_ : Value, e = .returned (.agg #[.int .i64 r1, v1_]) ∧ Kd.R k46 46 w' w.heap.size (fun _ => True) v1_ r2 ∧ Below w.heap.size w w' := by
  have HR := Aside0.mk hr0
  have HC := Aside0.mk hc0
  clear hr0
  obtain ⟨W, hW⟩ : ∃ W, W = (w.alloc (.cells #[.int .i64 a1_0, .bool a1_1, .int .i64 a1_2] 25)).alloc (.cells #[.int .i64 0, .slice none 0 0] 40) := ⟨_, rfl⟩
  have hB : Below w.heap.size w W := by subst hW; exact below_alloc (below_alloc (Below.refl _ _) _) _
  have hK : W.heap[w.heap.size + 1]? = some (.cells #[.int .i64 0, .slice none 0 0] 40 (0, 0)) := by
    subst hW
    have := heap_alloc_new (w.alloc (.cells #[.int .i64 a1_0, .bool a1_1, .int .i64 a1_2] 25)) (.cells #[.int .i64 0, .slice none 0 0] 40)
    simpa using this
  have hI : IsS25 w W w.heap.size a1_0 a1_1 a1_2 := by subst hW; exact (IsS25.new w w _ _ _ (Below.refl _ _)).alloc _
  have hz : W.heap.size = w.heap.size + 2 := by subst hW; simp
  have HW := Aside0.mk hW
  have HI := Aside0.mk hI
  have HB := Aside0.mk hB
  have HK := Aside0.mk hK
  clear hW hI hB hK
  have hc0' := blk_cell HI.out.1 0
  have hc1' := blk_cell HI.out.1 1
  have hc2' := blk_cell HI.out.1 2
  obtain ⟨t, h1, h2⟩ := Option.bind_eq_some_iff.mp h
  have H1 := Aside0.mk h1
  (try simp only at h2)
  clear h h1
  by_cases ht : t = 0
  case neg =>
    rw [if_neg ht] at h2
    simp only [Option.some.injEq, Prod.mk.injEq] at h2
    obtain ⟨rfl, rfl⟩ := h2
    have ht' : (t != 0) = true := by simpa using ht
    have ht2 : (t == 0) = false := by simpa using ht
    go_enter Try.func37, Try.ntmps37
    go_wp2_with (fail)
    rw [← HW.out]
    go_wp2_with (fail)
    refine (impl_rowCode.calls k A0 c0 l0 a1_0 a1_1 a1_2 t W (Kd.C_below HR.out HB.out) HC.out H1.out).mono ?_
    rintro e w1 ⟨rfl, hb1⟩
    have HK1 := (hb1.block (w.heap.size + 1) (by omega)).trans HK.out
    have hd0 := blk_cell HK1 0
    have hd1 := blk_cell HK1 1
    have hf0 := blk_frozen HK1 0
    have hf1 := blk_frozen HK1 1
    have HB1 := Aside0.mk (below_step HB.out hb1)
    clear hb1 HK1 hc0' hc1' hc2'
    go_wp2_with (fail)
    refine bodyPost_ret (by simp [results, Try.results37, go_sem, hd0, hd1, hf0, hf1]; try rfl) rfl ?_
    exact ⟨_, rfl, Kd.R_nil _ _ _ _ _, below_set (below_set HB1.out (by omega)) (by omega)⟩
  subst ht
  rw [if_pos rfl] at h2
  obtain ⟨n, h3, h4⟩ := Option.bind_eq_some_iff.mp h2
  have H3 := Aside0.mk h3
  (try simp only at h4)
  clear h2 h3
  have HQ : Aside0 (impl_within.f a2 0 (wrap64 (n - 1)) = some (decide (0 ≤ a2 ∧ a2 ≤ wrap64 (n - 1)))) := ⟨by unfold impl_within.f; by_cases h : 0 ≤ a2 <;> simp [h]⟩
  by_cases hin : 0 ≤ a2 ∧ a2 ≤ wrap64 (n - 1)
  case neg =>
    rw [if_neg hin] at h4
    simp only [Option.some.injEq, Prod.mk.injEq] at h4
    obtain ⟨rfl, rfl⟩ := h4
    rw [decide_eq_false hin] at HQ
    clear hin
    go_enter Try.func37, Try.ntmps37
    go_wp2_with (fail)
    rw [← HW.out]
    go_wp2_with (fail)
    refine (impl_rowCode.calls k A0 c0 l0 a1_0 a1_1 a1_2 0 W (Kd.C_below HR.out HB.out) HC.out H1.out).mono ?_
    rintro e w1 ⟨rfl, hb1⟩
    have HI1 := Aside0.mk (HI.out.below hb1)
    have HK1 := Aside0.mk ((hb1.block (w.heap.size + 1) (by omega)).trans HK.out)
    have HB1 := Aside0.mk (below_step HB.out hb1)
    have hz1 : w.heap.size + 2 ≤ w1.heap.size := by have := hb1.size; omega
    clear hb1 hc0' hc1' hc2'
    have hc0' := blk_cell HI1.out.1 0
    have hc1' := blk_cell HI1.out.1 1
    have hc2' := blk_cell HI1.out.1 2
    go_wp2_with (fail)
    refine (impl_rowCount.calls A0 c0 l0 a1_0 a1_1 a1_2 n w1 (Kd.C_below HR.out HB1.out) HC.out H3.out).mono ?_
    rintro e w2 ⟨rfl, hb2⟩
    have HK2 := (hb2.block (w.heap.size + 1) (by omega)).trans HK1.out
    have hd0 := blk_cell HK2 0
    have hd1 := blk_cell HK2 1
    have hf0 := blk_frozen HK2 0
    have hf1 := blk_frozen HK2 1
    have HB2 := Aside0.mk (below_step HB1.out hb2)
    clear hb2 HK2 hc0' hc1' hc2'
    go_wp2_with (first | (go_at_call 56; refine calls_of_args (by simp only [i64_w]; rfl) ?_; refine (impl_within.calls a2 0 (wrap64 (n - 1)) false _ HQ.out).mono ?_; rintro e w' ⟨rfl, ⟨nd, rfl⟩⟩) | (go_at_call 56; refine (impl_within.calls a2 0 (wrap64 (n - 1)) false _ HQ.out).mono ?_; rintro e w' ⟨rfl, ⟨nd, rfl⟩⟩))
    refine bodyPost_ret (by simp [results, Try.results37, go_sem, hd0, hd1, hf0, hf1]; try rfl) rfl ?_
    refine ⟨_, rfl, Kd.R_nil _ _ _ _ _, ?_⟩
    repeat (first | (with_reducible first | exact HB2.out | apply below_alloc | apply pw_below_drewN | apply below_drew1 | refine below_set ?_ (by omega)) | exact HB2.out)
  rw [if_pos hin] at h4
  rw [decide_eq_true hin] at HQ
  clear hin
  by_cases hok : rowOk l0 a1_0 a1_2 a2 = true
  case neg => rw [if_neg hok] at h4; cases h4
  rw [if_pos hok] at h4
  simp only [Option.some.injEq, Prod.mk.injEq] at h4
  obtain ⟨rfl, rfl⟩ := h4
  have HOK := Aside0.mk (rowOk_all hok)
  clear hok
  go_enter Try.func37, Try.ntmps37
  go_wp2_with (fail)
  rw [← HW.out]
  go_wp2_with (fail)
  refine (impl_rowCode.calls k A0 c0 l0 a1_0 a1_1 a1_2 0 W (Kd.C_below HR.out HB.out) HC.out H1.out).mono ?_
  rintro e w1 ⟨rfl, hb1⟩
  have HI1 := Aside0.mk (HI.out.below hb1)
  have HK1 := Aside0.mk ((hb1.block (w.heap.size + 1) (by omega)).trans HK.out)
  have HB1 := Aside0.mk (below_step HB.out hb1)
  have hz1 : w.heap.size + 2 ≤ w1.heap.size := by have := hb1.size; omega
  clear hb1 hc0' hc1' hc2'
  have hc0' := blk_cell HI1.out.1 0
  have hc1' := blk_cell HI1.out.1 1
  have hc2' := blk_cell HI1.out.1 2
  go_wp2_with (fail)
  refine (impl_rowCount.calls A0 c0 l0 a1_0 a1_1 a1_2 n w1 (Kd.C_below HR.out HB1.out) HC.out H3.out).mono ?_
  rintro e w2 ⟨rfl, hb2⟩
  have HI2 := Aside0.mk (HI1.out.below hb2)
  have HK2 := Aside0.mk ((hb2.block (w.heap.size + 1) (by omega)).trans HK1.out)
  have HB2 := Aside0.mk (below_step HB1.out hb2)
  have hz2 : w.heap.size + 2 ≤ w2.heap.size := by have := hb2.size; omega
  clear hb2 hc0' hc1' hc2'
  have hc0' := blk_cell HI2.out.1 0
  have hc1' := blk_cell HI2.out.1 1
  have hc2' := blk_cell HI2.out.1 2
  go_wp2_with (first | (go_at_call 56; refine calls_of_args (by simp only [i64_w]; rfl) ?_; refine (impl_within.calls a2 0 (wrap64 (n - 1)) true _ HQ.out).mono ?_; rintro e w' ⟨rfl, ⟨nd, rfl⟩⟩) | (go_at_call 56; refine (impl_within.calls a2 0 (wrap64 (n - 1)) true _ HQ.out).mono ?_; rintro e w' ⟨rfl, ⟨nd, rfl⟩⟩))
  have hbd : Below w.heap.size w (w2.drewN nd) := pw_below_drewN HB2.out nd
  have HBD := Aside0.mk hbd
  have hlen := rowCut_len l0 a1_0 a1_1 a1_2 a2
  have hl1 := M.lineOk_len HOK.out.1
  have HL := Aside0.mk (show (rowCut (cellsS l0) a1_0 a1_1 a1_2 a2).length * 24 ≤ 140737488351232 by omega)
  clear hbd hlen hl1
  refine M.rowCells_c A0 l0.length c0 l0 a1_0 a1_1 a1_2 a2 _ rfl (M.row_ints (Kd.C_below HR.out HBD.out)) (M.lineOk_byt HOK.out.1) HC.out (M.lineOk_len HOK.out.1) HOK.out.2.1 HOK.out.2.2.1 HOK.out.2.2.2.1 HOK.out.2.2.2.2.1 HOK.out.2.2.2.2.2.1 HOK.out.2.2.2.2.2.2 _ ?_
  intro A3 m3 c3 w3 hm3 hR3 hc3 _ hb3
  have hm3' : m3 = (rowCut (cellsS l0) a1_0 a1_1 a1_2 a2).length := by rw [hm3, ← rowCut_map l0 a1_0 a1_1 a1_2 a2, List.length_map]
  have HC3 := Aside0.mk (rowCut_C (M.lineOk_len HOK.out.1) hR3)
  clear hm3 hR3
  subst hm3'
  have HB3 := Aside0.mk (below_step HBD.out hb3)
  have HK3 := Aside0.mk ((hb3.block (w.heap.size + 1) (by show _ < w2.heap.size; omega)).trans HK2.out)
  have hz3 : w.heap.size + 2 ≤ w3.heap.size := by have := hb3.size; have e : (w2.drewN nd).heap.size = w2.heap.size := rfl; omega
  clear hb3 hc0' hc1' hc2'
  go_wp2_with (fail)
  refine (clone_cell_calls A3 c3 _ w3 HC3.out hc3 HL.out).mono ?_
  rintro e w4 ⟨v4, rfl, ho4, hb4⟩
  obtain ⟨A4, c4, rfl⟩ := Kd.R_slice ho4
  have HK4 := Aside0.mk ((hb4.block (w.heap.size + 1) (by omega)).trans HK3.out)
  have HB4 := Aside0.mk (below_step HB3.out hb4)
  have HO4 := Aside0.mk (Kd.R_lower ho4 (show w.heap.size ≤ w3.heap.size by omega))
  clear ho4 hb4
  have hd0 := blk_cell HK4.out 0
  have hd1 := blk_cell HK4.out 1
  have hf0 := blk_frozen HK4.out 0
  have hf1 := blk_frozen HK4.out 1
  go_wp2_with (fail)
  refine bodyPost_ret (by simp [results, Try.results37, go_sem, hd0, hd1, hf0, hf1]; try rfl) rfl ?_
  refine ⟨_, rfl, ?_, below_set (below_set HB4.out (by omega)) (by omega)⟩
  have hs := Kd.R_set HO4.out HK4.out (by decide) 0 (.int .i64 0)
  have hk := blk_set HK4.out 0 (.int .i64 0)
  exact Kd.R_set hs hk (by decide) 1 _

end Go.Proofs.Ytcinaflmpdmdaaa.Q
end
section
namespace Go.Proofs.Ytcinaflmpdmdaaa.Q
open Go.RowKit Go.Proofs.YtcinaflmpdmdaaaW.PrintWords Go.Proofs.YtcinaflmpdmdaaaW.PrintLast Go.Proofs.YtcinaflmpdmdaaaW.PrintMore
attribute [local go_sem] max2_int min2_int max_two min_two max_three min_three max_four min_four   -- for this text's walks alone
set_option linter.unusedVariables false
set_option linter.unusedSimpArgs false

/-! ### spec_RowCells: function 44 -/
theorem asked_state {k : Nat} {l0 : List Int} {a : Int} {b : Bool} {c r1 r2 : Int} {r3 : Bool} {r4 : Int} (h : spec_l10Asked.f k l0 a b c = some (r1, r2, r3, r4)) : ((r2, r3, r4) : Int × Bool × Int) = (a, b, c) := by
  have hj : ∀ (k : Nat) (x : Bool) (a : Int) (b : Bool) (c : Int) (r : Int × Int × Bool × Int), spec_l10Fault.j0 k x a b c = some r → r.2 = (a, b, c) := by
    intro k x a b c r h
    cases k with
    | zero => simp [spec_l10Fault.j0] at h
    | succ k =>
      simp only [spec_l10Fault.j0] at h
      repeat' split at h
      all_goals (obtain rfl := Option.some.inj h; rfl)
  have hf : ∀ (r : Int × Int × Bool × Int), spec_l10Fault.f k a b c = some r → r.2 = (a, b, c) := by
    intro r h
    unfold spec_l10Fault.f at h
    obtain ⟨t, _, h⟩ := Option.bind_eq_some_iff.mp h
    split at h
    · obtain ⟨t, _, h⟩ := Option.bind_eq_some_iff.mp h
      exact hj _ _ _ _ _ _ h
    · exact hj _ _ _ _ _ _ h
  unfold spec_l10Asked.f at h
  obtain ⟨t, h1, h2⟩ := Option.bind_eq_some_iff.mp h
  have e := hf t h1
  obtain ⟨q1, q2, q3, q4⟩ := t
  simp only at e h2
  rw [← e]
  repeat' split at h2
  all_goals (have := Option.some.inj h2; simp only [Prod.mk.injEq] at this; simp [this])
theorem count_state {l0 : List Int} {a : Int} {b : Bool} {c r1 r2 : Int} {r3 : Bool} {r4 : Int} (h : spec_l10Count.f l0 a b c = some (r1, r2, r3, r4)) : ((r2, r3, r4) : Int × Bool × Int) = (a, b, c) := by
  unfold spec_l10Count.f at h
  obtain ⟨t, _, h⟩ := Option.bind_eq_some_iff.mp h
  repeat' split at h
  all_goals first | (cases h; done) | (have := Option.some.inj h; simp only [Prod.mk.injEq] at this; simp [this])
def spec_RowCells.f (k : Nat) (l0 : List Int) (a1_0 : Int) (a1_1 : Bool) (a1_2 : Int) (a2 : Int) : Option (Int × (List S46)) :=
  (spec_l10Asked.f k l0 a1_0 a1_1 a1_2).bind fun t => if t.1 = 0 then (spec_l10Count.f l0 t.2.1 t.2.2.1 t.2.2.2).bind fun n => (if 0 ≤ a2 ∧ a2 ≤ wrap64 (n.1 - 1) then (if rowOk l0 a1_0 a1_2 a2 = true then some (0, rowCut (cellsS l0) a1_0 a1_1 a1_2 a2) else none) else some (3, [])) else some (t.1, [])
theorem spec_RowCells.mono : ∀ a0 a1 a2 a3 a4 k, LeO (spec_RowCells.f k a0 a1 a2 a3 a4) (spec_RowCells.f (k + 1) a0 a1 a2 a3 a4) := fun a0 a1 a2 a3 a4 k => LeO.bind (spec_l10Asked.mono a0 a1 a2 a3 k) (fun _ => LeO.refl _)
set_option maxHeartbeats 2000000 in
theorem spec_RowCells.calls (k : Nat) (A0 : Option Addr) (c0 : Nat) (l0 : List Int) (a1_0 : Int) (a1_1 : Bool) (a1_2 : Int) (a2 : Int) (r1 : Int) (r2 : List (S46)) (w : World) (hr0 : Kd.C (Kd.int .u8) w A0 l0.length l0) (hc0 : l0.length ≤ c0) (h : spec_RowCells.f k l0 a1_0 a1_1 a1_2 a2 = some (r1, r2)) :
    Calls Try.prog 44 #[.slice A0 l0.length c0, .agg #[.int .i64 a1_0, .bool a1_1, .int .i64 a1_2], .int .i64 a2] w fun e w' => ∃ v1_ : Value, e = .returned (.agg #[.int .i64 r1, v1_]) ∧ Kd.R k46 46 w' w.heap.size (fun _ => True) v1_ r2 ∧ Below w.heap.size w w' := by
  have HR := Aside0.mk hr0
  have HC := Aside0.mk hc0
  clear hr0
  obtain ⟨W, hW⟩ : ∃ W, W = (w.alloc (.cells #[.int .i64 a1_0, .bool a1_1, .int .i64 a1_2] 25)).alloc (.cells #[.int .i64 0, .slice none 0 0] 40) := ⟨_, rfl⟩
  have hB : Below w.heap.size w W := by subst hW; exact below_alloc (below_alloc (Below.refl _ _) _) _
  have hK : W.heap[w.heap.size + 1]? = some (.cells #[.int .i64 0, .slice none 0 0] 40 (0, 0)) := by
    subst hW
    have := heap_alloc_new (w.alloc (.cells #[.int .i64 a1_0, .bool a1_1, .int .i64 a1_2] 25)) (.cells #[.int .i64 0, .slice none 0 0] 40)
    simpa using this
  have hI : IsS25 w W w.heap.size a1_0 a1_1 a1_2 := by subst hW; exact (IsS25.new w w _ _ _ (Below.refl _ _)).alloc _
  have hz : W.heap.size = w.heap.size + 2 := by subst hW; simp
  have HW := Aside0.mk hW
  have HI := Aside0.mk hI
  have HB := Aside0.mk hB
  have HK := Aside0.mk hK
  clear hW hI hB hK
  have hfar : ∀ ad, A0 = some ad → 0 < l0.length → ad.block ≠ w.heap.size := fun ad e hn => by
    obtain ⟨ad', e', hc⟩ := HR.out.2.2 hn
    obtain rfl : ad = ad' := Option.some.inj (e.symm.trans e')
    obtain ⟨x, hx⟩ : ∃ x, l0[0]? = some x := ⟨_, List.getElem?_eq_getElem hn⟩
    obtain ⟨c, hl, rfl, hcell⟩ := hc 0 x hx
    have := World.block_lt_of_cell? w _ (hcell 0 _ rfl)
    simp [Addr.add] at this
    omega
  have HF := Aside0.mk hfar
  clear hfar
  obtain ⟨⟨t, t2, t3, t4⟩, h1, h2⟩ := Option.bind_eq_some_iff.mp h
  have H1 := Aside0.mk h1
  simp only at h2
  clear h h1
  by_cases ht : t = 0
  case neg =>
    rw [if_neg ht] at h2
    simp only [Option.some.injEq, Prod.mk.injEq] at h2
    obtain ⟨rfl, rfl⟩ := h2
    have ht' : (t != 0) = true := by simpa using ht
    have ht2 : (t == 0) = false := by simpa using ht
    go_enter Try.func44, Try.ntmps44
    go_wp2_with (fail)
    rw [← HW.out]
    go_wp2_with (fail)
    refine (spec_l10Asked.calls k A0 c0 l0 w.heap.size a1_0 a1_1 a1_2 t t2 t3 t4 w W HI.out HB.out (Kd.C_below HR.out HB.out) HC.out HF.out H1.out).mono ?_
    rintro e w1 ⟨rfl, hI1, hb1, hk1⟩
    have HK1 := hk1.blk HK.out (by omega) (by simp)
    have hd0 := blk_cell HK1 0
    have hd1 := blk_cell HK1 1
    have hf0 := blk_frozen HK1 0
    have hf1 := blk_frozen HK1 1
    have HB1 := Aside0.mk hb1
    clear hI1 hb1 hk1 HK1
    go_wp2_with (fail)
    refine bodyPost_ret (by simp [results, Try.results44, go_sem, hd0, hd1, hf0, hf1]; try rfl) rfl ?_
    exact ⟨_, rfl, Kd.R_nil _ _ _ _ _, below_set (below_set HB1.out (by omega)) (by omega)⟩
  subst ht
  rw [if_pos rfl] at h2
  obtain ⟨⟨n, u2, u3, u4⟩, h3, h4⟩ := Option.bind_eq_some_iff.mp h2
  have H3 := Aside0.mk h3
  simp only at h4
  clear h2 h3
  have HQ : Aside0 (spec_l1In.f a2 0 (wrap64 (n - 1)) = some (decide (0 ≤ a2 ∧ a2 ≤ wrap64 (n - 1)))) := ⟨by unfold spec_l1In.f; by_cases h : 0 ≤ a2 <;> simp [h]⟩
  have hst : ((t2, t3, t4) : Int × Bool × Int) = (a1_0, a1_1, a1_2) := asked_state H1.out
  simp only [Prod.mk.injEq] at hst
  obtain ⟨rfl, rfl, rfl⟩ := hst
  have hsu : ((u2, u3, u4) : Int × Bool × Int) = (t2, t3, t4) := count_state H3.out
  simp only [Prod.mk.injEq] at hsu
  obtain ⟨rfl, rfl, rfl⟩ := hsu
  by_cases hin : 0 ≤ a2 ∧ a2 ≤ wrap64 (n - 1)
  case neg =>
    rw [if_neg hin] at h4
    simp only [Option.some.injEq, Prod.mk.injEq] at h4
    obtain ⟨rfl, rfl⟩ := h4
    rw [decide_eq_false hin] at HQ
    clear hin
    go_enter Try.func44, Try.ntmps44
    go_wp2_with (fail)
    rw [← HW.out]
    go_wp2_with (fail)
    refine (spec_l10Asked.calls k A0 c0 l0 w.heap.size _ _ _ 0 _ _ _ w W HI.out HB.out (Kd.C_below HR.out HB.out) HC.out HF.out H1.out).mono ?_
    rintro e w1 ⟨rfl, hI1, hb1, hk1⟩
    have HK1 := Aside0.mk (hk1.blk HK.out (by omega) (by simp))
    have HI1 := Aside0.mk hI1
    have HB1 := Aside0.mk hb1
    have hz1 : w.heap.size + 2 ≤ w1.heap.size := by have := hk1.1; omega
    clear hI1 hb1 hk1
    go_wp2_with (fail)
    refine (spec_l10Count.calls A0 c0 l0 w.heap.size _ _ _ n _ _ _ w w1 HI1.out HB1.out (Kd.C_below HR.out HB1.out) HC.out HF.out H3.out).mono ?_
    rintro e w2 ⟨rfl, hI2, hb2, hk2⟩
    have HK2 := hk2.blk HK1.out (by omega) (by simp)
    have hd0 := blk_cell HK2 0
    have hd1 := blk_cell HK2 1
    have hf0 := blk_frozen HK2 0
    have hf1 := blk_frozen HK2 1
    have HB2 := Aside0.mk hb2
    clear hI2 hb2 hk2 HK2
    go_wp2_with (first | (go_at_call 82; refine calls_of_args (by simp only [i64_w]; rfl) ?_; refine (spec_l1In.calls a2 0 (wrap64 (n - 1)) false _ HQ.out).mono ?_; rintro e w' ⟨rfl, ⟨nd, rfl⟩⟩) | (go_at_call 82; refine (spec_l1In.calls a2 0 (wrap64 (n - 1)) false _ HQ.out).mono ?_; rintro e w' ⟨rfl, ⟨nd, rfl⟩⟩))
    refine bodyPost_ret (by simp [results, Try.results44, go_sem, hd0, hd1, hf0, hf1]; try rfl) rfl ?_
    refine ⟨_, rfl, Kd.R_nil _ _ _ _ _, ?_⟩
    repeat (first | (with_reducible first | exact HB2.out | apply below_alloc | apply pw_below_drewN | apply below_drew1 | refine below_set ?_ (by omega)) | exact HB2.out)
  rw [if_pos hin] at h4
  rw [decide_eq_true hin] at HQ
  clear hin
  by_cases hok : rowOk l0 u2 u4 a2 = true
  case neg => rw [if_neg hok] at h4; cases h4
  rw [if_pos hok] at h4
  simp only [Option.some.injEq, Prod.mk.injEq] at h4
  obtain ⟨rfl, rfl⟩ := h4
  have HOK := Aside0.mk (rowOk_all hok)
  clear hok
  go_enter Try.func44, Try.ntmps44
  go_wp2_with (fail)
  rw [← HW.out]
  go_wp2_with (fail)
  refine (spec_l10Asked.calls k A0 c0 l0 w.heap.size _ _ _ 0 _ _ _ w W HI.out HB.out (Kd.C_below HR.out HB.out) HC.out HF.out H1.out).mono ?_
  rintro e w1 ⟨rfl, hI1, hb1, hk1⟩
  have HK1 := Aside0.mk (hk1.blk HK.out (by omega) (by simp))
  have HI1 := Aside0.mk hI1
  have HB1 := Aside0.mk hb1
  have hz1 : w.heap.size + 2 ≤ w1.heap.size := by have := hk1.1; omega
  clear hI1 hb1 hk1
  go_wp2_with (fail)
  refine (spec_l10Count.calls A0 c0 l0 w.heap.size _ _ _ n _ _ _ w w1 HI1.out HB1.out (Kd.C_below HR.out HB1.out) HC.out HF.out H3.out).mono ?_
  rintro e w2 ⟨rfl, hI2, hb2, hk2⟩
  have HK2 := Aside0.mk (hk2.blk HK1.out (by omega) (by simp))
  have HI2 := Aside0.mk hI2
  have HB2 := Aside0.mk hb2
  have hz2 : w.heap.size + 2 ≤ w2.heap.size := by have := hk2.1; omega
  clear hI2 hb2 hk2
  go_wp2_with (first | (go_at_call 82; refine calls_of_args (by simp only [i64_w]; rfl) ?_; refine (spec_l1In.calls a2 0 (wrap64 (n - 1)) true _ HQ.out).mono ?_; rintro e w' ⟨rfl, ⟨nd, rfl⟩⟩) | (go_at_call 82; refine (spec_l1In.calls a2 0 (wrap64 (n - 1)) true _ HQ.out).mono ?_; rintro e w' ⟨rfl, ⟨nd, rfl⟩⟩))
  obtain ⟨W5, hW5⟩ : ∃ W5, W5 = (w2.drewN nd).alloc (.cells #[] 46) := ⟨_, rfl⟩
  have hb5 : Below w2.heap.size w2 W5 := by subst hW5; exact below_alloc (pw_below_drewN (Below.refl _ _) _) _
  have hz5 : W5.heap.size = w2.heap.size + 1 := by subst hW5; show ((w2.drewN nd).alloc _).heap.size = _; simp
  have HO5 := Aside0.mk (show Kd.R k46 46 W5 w2.heap.size (fun _ => True) (.slice (some ⟨w2.heap.size, 0, none⟩) 0 0) [] from by
    subst hW5
    exact M.R_of_own (f := fun s : S46 => (⟨s.f0, s.f1, s.f2⟩ : M.Cel)) rfl (fun w b ok x => k46_mkM w b ok x) M.eCel_len (M.Own.lit (w2.drewN nd) #[] [] 0 (Nat.le_refl _) rfl (by unfold maxLen; omega) M.Enc.nil))
  have HI5 := Aside0.mk (HI2.out.below hb5)
  have HK5 := Aside0.mk ((hb5.block (w.heap.size + 1) (by omega)).trans HK2.out)
  have HB5 := Aside0.mk (below_step HB2.out hb5)
  have HW5 := Aside0.mk hW5
  have hlen := rowCut_len l0 u2 u3 u4 a2
  have hl1 := M.lineOk_len HOK.out.1
  have HL := Aside0.mk (show (rowCut (cellsS l0) u2 u3 u4 a2).length * 24 ≤ 140737488351232 by omega)
  clear hb5 hW5 hlen hl1
  go_wp2_with (fail)
  rw [← HW5.out]
  refine M.l10Cells_c A0 l0.length c0 l0 u2 u3 u4 a2 w.heap.size W5 (fun i => blk_cell HI5.out.1 i) (by omega) rfl (M.row_ints (Kd.C_below HR.out HB5.out)) (M.lineOk_byt HOK.out.1) (M.lineOk_len HOK.out.1) HOK.out.2.1 HOK.out.2.2.1 HOK.out.2.2.2.1 HOK.out.2.2.2.2.1 HOK.out.2.2.2.2.2.1 HOK.out.2.2.2.2.2.2 _ ?_
  intro A3 m3 c3 w3 hm3 hR3 hc3 _ hb3
  have hm3' : m3 = (rowCut (cellsS l0) u2 u3 u4 a2).length := by rw [hm3, ← rowCut_map l0 u2 u3 u4 a2, List.length_map]
  have HC3 := Aside0.mk (rowCut_C (M.lineOk_len HOK.out.1) hR3)
  clear hm3 hR3
  subst hm3'
  have HB3 := Aside0.mk (below_step HB5.out hb3)
  have HK3 := Aside0.mk ((hb3.block (w.heap.size + 1) (by omega)).trans HK5.out)
  have HO3 := Aside0.mk (Kd.R_lower (Kd.R_below HO5.out hb3) (show w.heap.size ≤ w2.heap.size by omega))
  have hz3 : w.heap.size + 2 ≤ w3.heap.size := by have := hb3.size; omega
  have LM := Aside0.mk (show (([] : List S46).length + (rowCut (cellsS l0) u2 u3 u4 a2).length) * 24 ≤ 140737488355328 by have := HL.out; simp only [List.length_nil, Nat.zero_add]; omega)
  clear hb3
  go_wp2_with (first | ((with_reducible refine gate_builtin (b := .append) (xs := #[.tmp 21, .tmp 24]) rfl ?_); at_builtin; refine Kd.R_append_rows k46 (w0 := w) w.heap.size rfl (.tmp 21) (.tmp 24) 38 46 (.agg #[.int .i64 0, .int .i64 0, .int .i64 0]) 24 rfl Try.underlying38 M.info_cell rfl (by decide) (by omega) (.slice (some ⟨w2.heap.size, 0, none⟩) 0 0) [] (rowCut (cellsS l0) u2 u3 u4 a2) A3 _ c3 (fun _ => True) (fun _ => False) rfl rfl ?aO ?aR (fun _ _ h => h) (fun _ h => h.elim) ?aF ?aB ?aS ?aL ?_; (case aR => exact HC3.out); (case aB => exact HB3.out); (case aF => exact (fun _ _ => trivial)); (case aO => exact HO3.out); (case aS => exact (by omega)); (case aL => exact LM.out); intro v105 w5 ho hb hg hat; rw [List.nil_append] at ho; obtain ⟨A4, c4, rfl⟩ := Kd.R_slice ho; have HO7 := Aside0.mk ho; have HB7 := Aside0.mk hb; have HK7 := Aside0.mk (blk_grown HK3.out hg (fun e => by have := Option.some.inj (e.trans (show (Value.slice (some ⟨w2.heap.size, 0, none⟩) 0 0).ownBlock = some w2.heap.size from rfl)); omega)); have hd0 := blk_cell HK7.out 0; have hd1 := blk_cell HK7.out 1; have hf0 := blk_frozen HK7.out 0; have hf1 := blk_frozen HK7.out 1; clear ho hb hg hat))
  refine bodyPost_ret (by simp [results, Try.results44, go_sem, hd0, hd1, hf0, hf1]; try rfl) rfl ?_
  refine ⟨_, rfl, ?_, below_set (below_set HB7.out (by omega)) (by omega)⟩
  have hs := Kd.R_set HO7.out HK7.out (by decide) 0 (.int .i64 0)
  have hk := blk_set HK7.out 0 (.int .i64 0)
  exact Kd.R_set hs hk (by decide) 1 _

end Go.Proofs.Ytcinaflmpdmdaaa.Q
end
section
namespace Go.Proofs.Ytcinaflmpdmdaaa.Q
open Go.RowKit Go.Proofs.YtcinaflmpdmdaaaW.PrintWords Go.Proofs.YtcinaflmpdmdaaaW.PrintLast Go.Proofs.YtcinaflmpdmdaaaW.PrintMore
attribute [local go_sem] max2_int min2_int max_two min_two max_three min_three max_four min_four   -- for this text's walks alone
set_option linter.unusedVariables false
set_option linter.unusedSimpArgs false

/-! ### laws_toLayout: function 15 -/
def laws_toLayout.f (a0_0 : Int) (a0_1 : Bool) (a0_2 : Int) : Option (Int × Bool × Int) := some (a0_0, a0_1, a0_2)
set_option maxHeartbeats 8000000 in
set_option maxRecDepth 100000 in
theorem laws_toLayout.calls (a0_0 : Int) (a0_1 : Bool) (a0_2 : Int) (r1 : Int) (r2 : Bool) (r3 : Int) (w : World) (h : laws_toLayout.f a0_0 a0_1 a0_2 = some (r1, r2, r3)) :
    Calls Try.prog 15 #[.agg #[.int .i64 a0_0, .bool a0_1, .int .i64 a0_2]] w fun e w' => e = .returned (.agg #[.int .i64 r1, .bool r2, .int .i64 r3]) ∧ Below w.heap.size w w' := by
  have hu23 := Try.underlying23
  have hu25 := Try.underlying25
  have HB := Aside0.mk (Below.refl w.heap.size w)
  have H : (some (a0_0, a0_1, a0_2)) = some (r1, r2, r3) := h
  clear h
  simp only [Option.some.injEq, Prod.mk.injEq] at H
  obtain ⟨rfl, rfl, rfl⟩ := H
  go_enter Try.func15, Try.ntmps15
  go_wp2_with (first | ((with_reducible refine gate_dst (N := 1) rfl ?_); refine box_event ?hg (N := 1) ?hd (cs := #[.int .i64 a0_0, .bool a0_1, .int .i64 a0_2]) (t := 23) ?hr ?_; (case hd => rfl); (case hg => rfl); (case hr => first | (go_simp; done) | (go_simp; rfl)); intro gb101 hg w2 hbox hb; have n0_ := Aside0.mk (below_step (by repeat (first | (with_reducible first | exact HB.out | apply below_alloc | apply pw_below_drewN | apply below_drew1) | exact HB.out)) hb); have n1_ := Aside0.mk (hbox); have n2_ := Aside0.mk ((by rw [hg]; exact (below_size (by repeat (first | (with_reducible first | exact HB.out | apply below_alloc | apply pw_below_drewN | apply below_drew1) | exact HB.out))) : w.heap.size ≤ gb101)); have n3_ := Aside0.mk ((by rw [hg]; exact (below_size (by repeat (first | (with_reducible first | exact HB.out | apply below_alloc | apply pw_below_drewN | apply below_drew1) | exact HB.out))) : w.heap.size ≤ gb101)); clear HB; have HB := n0_; have BK101 := n1_; have GW101 := n2_; have GE101 := n3_; clear n0_ n1_ n2_ n3_; clear hb hbox hg) | ((with_reducible refine gate_dst (N := 2) rfl ?_); refine box_event ?hg (N := 2) ?hd (cs := #[.int .i64 0, .bool false, .int .i64 0]) (t := 25) ?hr ?_; (case hd => rfl); (case hg => rfl); (case hr => first | (go_simp; done) | (go_simp; rfl)); intro gb102 hg w3 hbox hb; have n0_ := Aside0.mk (blk_below (g := gb101) (o := .cells #[.int .i64 a0_0, .bool a0_1, .int .i64 a0_2] 23 (0, 0)) (by (with_reducible repeat (first | refine blk_drewN ?_ _ | refine blk_drew ?_ | refine blk_alloc ?_ _)); exact BK101.out) hb); have n1_ := Aside0.mk (below_step (by repeat (first | (with_reducible first | exact HB.out | apply below_alloc | apply pw_below_drewN | apply below_drew1 | refine below_set ?_ GE101.out) | exact HB.out)) hb); have n2_ := Aside0.mk (hbox); have n3_ := Aside0.mk ((by rw [hg]; exact (below_size (by repeat (first | (with_reducible first | exact HB.out | apply below_alloc | apply pw_below_drewN | apply below_drew1 | refine below_set ?_ GE101.out) | exact HB.out))) : w.heap.size ≤ gb102)); have n4_ := Aside0.mk ((by rw [hg]; exact (below_size (by repeat (first | (with_reducible first | exact HB.out | apply below_alloc | apply pw_below_drewN | apply below_drew1 | refine below_set ?_ GE101.out) | exact HB.out))) : w.heap.size ≤ gb102)); have n5_ := Aside0.mk ((by rw [hg]; exact Nat.ne_of_lt (blk_lt (g := gb101) (o := .cells #[.int .i64 a0_0, .bool a0_1, .int .i64 a0_2] 23 (0, 0)) (by (with_reducible repeat (first | refine blk_drewN ?_ _ | refine blk_drew ?_ | refine blk_alloc ?_ _)); exact BK101.out)) : gb101 ≠ gb102)); have n6_ := Aside0.mk ((by rw [hg]; exact Nat.ne_of_gt (blk_lt (g := gb101) (o := .cells #[.int .i64 a0_0, .bool a0_1, .int .i64 a0_2] 23 (0, 0)) (by (with_reducible repeat (first | refine blk_drewN ?_ _ | refine blk_drew ?_ | refine blk_alloc ?_ _)); exact BK101.out)) : gb102 ≠ gb101)); clear BK101; clear HB; have BK101 := n0_; have HB := n1_; have BK102 := n2_; have GW102 := n3_; have GE102 := n4_; have NB101_102 := n5_; have NB102_101 := n6_; clear n0_ n1_ n2_ n3_ n4_ n5_ n6_; clear hb hbox hg) | ((with_reducible refine gate_dst (N := 3) rfl ?_); refine box_event ?hg (N := 3) ?hd (cs := #[.int .i64 0, .bool false, .int .i64 0]) (t := 25) ?hr ?_; (case hd => rfl); (case hg => rfl); (case hr => first | (go_simp; done) | (go_simp; rfl)); intro gb103 hg w4 hbox hb; have n0_ := Aside0.mk (blk_below (g := gb101) (o := .cells #[.int .i64 a0_0, .bool a0_1, .int .i64 a0_2] 23 (0, 0)) (by (with_reducible repeat (first | refine blk_drewN ?_ _ | refine blk_drew ?_ | refine blk_alloc ?_ _)); exact BK101.out) hb); have n1_ := Aside0.mk (blk_below (g := gb102) (o := .cells #[.int .i64 0, .bool false, .int .i64 0] 25 (0, 0)) (by (with_reducible repeat (first | refine blk_drewN ?_ _ | refine blk_drew ?_ | refine blk_alloc ?_ _)); exact BK102.out) hb); have n2_ := Aside0.mk (below_step (by repeat (first | (with_reducible first | exact HB.out | apply below_alloc | apply pw_below_drewN | apply below_drew1 | refine below_set ?_ GE101.out | refine below_set ?_ GE102.out) | exact HB.out)) hb); have n3_ := Aside0.mk (hbox); have n4_ := Aside0.mk ((by rw [hg]; exact (below_size (by repeat (first | (with_reducible first | exact HB.out | apply below_alloc | apply pw_below_drewN | apply below_drew1 | refine below_set ?_ GE101.out | refine below_set ?_ GE102.out) | exact HB.out))) : w.heap.size ≤ gb103)); have n5_ := Aside0.mk ((by rw [hg]; exact (below_size (by repeat (first | (with_reducible first | exact HB.out | apply below_alloc | apply pw_below_drewN | apply below_drew1 | refine below_set ?_ GE101.out | refine below_set ?_ GE102.out) | exact HB.out))) : w.heap.size ≤ gb103)); have n6_ := Aside0.mk ((by rw [hg]; exact Nat.ne_of_lt (blk_lt (g := gb101) (o := .cells #[.int .i64 a0_0, .bool a0_1, .int .i64 a0_2] 23 (0, 0)) (by (with_reducible repeat (first | refine blk_drewN ?_ _ | refine blk_drew ?_ | refine blk_alloc ?_ _)); exact BK101.out)) : gb101 ≠ gb103)); have n7_ := Aside0.mk ((by rw [hg]; exact Nat.ne_of_gt (blk_lt (g := gb101) (o := .cells #[.int .i64 a0_0, .bool a0_1, .int .i64 a0_2] 23 (0, 0)) (by (with_reducible repeat (first | refine blk_drewN ?_ _ | refine blk_drew ?_ | refine blk_alloc ?_ _)); exact BK101.out)) : gb103 ≠ gb101)); have n8_ := Aside0.mk ((by rw [hg]; exact Nat.ne_of_lt (blk_lt (g := gb102) (o := .cells #[.int .i64 0, .bool false, .int .i64 0] 25 (0, 0)) (by (with_reducible repeat (first | refine blk_drewN ?_ _ | refine blk_drew ?_ | refine blk_alloc ?_ _)); exact BK102.out)) : gb102 ≠ gb103)); have n9_ := Aside0.mk ((by rw [hg]; exact Nat.ne_of_gt (blk_lt (g := gb102) (o := .cells #[.int .i64 0, .bool false, .int .i64 0] 25 (0, 0)) (by (with_reducible repeat (first | refine blk_drewN ?_ _ | refine blk_drew ?_ | refine blk_alloc ?_ _)); exact BK102.out)) : gb103 ≠ gb102)); clear BK101; clear BK102; clear HB; have BK101 := n0_; have BK102 := n1_; have HB := n2_; have BK103 := n3_; have GW103 := n4_; have GE103 := n5_; have NB101_103 := n6_; have NB103_101 := n7_; have NB102_103 := n8_; have NB103_102 := n9_; clear n0_ n1_ n2_ n3_ n4_ n5_ n6_ n7_ n8_ n9_; clear hb hbox hg; have hnb5 := NB101_102.out; have hnc5 := NB102_101.out; have hnb6 := NB101_103.out; have hnc6 := NB103_101.out; have hcz7_0 : w4.cell? ⟨gb101, 0, none⟩ = some (.int .i64 a0_0) := (blk_cell BK101.out 0).trans rfl; have hcz7_1 : w4.cell? ⟨gb101, 1, none⟩ = some (.bool a0_1) := (blk_cell BK101.out 1).trans rfl; have hcz7_2 : w4.cell? ⟨gb101, 2, none⟩ = some (.int .i64 a0_2) := (blk_cell BK101.out 2).trans rfl; have hfz7_0 := blk_frozen BK101.out 0; have hfz7_1 := blk_frozen BK101.out 1; have hfz7_2 := blk_frozen BK101.out 2; have hnb8 := NB103_102.out; have hnc8 := NB102_103.out; have hcz9_0 : w4.cell? ⟨gb103, 0, none⟩ = some (.int .i64 0) := (blk_cell BK103.out 0).trans rfl; have hcz9_1 : w4.cell? ⟨gb103, 1, none⟩ = some (.bool false) := (blk_cell BK103.out 1).trans rfl; have hcz9_2 : w4.cell? ⟨gb103, 2, none⟩ = some (.int .i64 0) := (blk_cell BK103.out 2).trans rfl; have hfz9_0 := blk_frozen BK103.out 0; have hfz9_1 := blk_frozen BK103.out 1; have hfz9_2 := blk_frozen BK103.out 2; have hcz10_0 : w4.cell? ⟨gb102, 0, none⟩ = some (.int .i64 0) := (blk_cell BK102.out 0).trans rfl; have hcz10_1 : w4.cell? ⟨gb102, 1, none⟩ = some (.bool false) := (blk_cell BK102.out 1).trans rfl; have hcz10_2 : w4.cell? ⟨gb102, 2, none⟩ = some (.int .i64 0) := (blk_cell BK102.out 2).trans rfl; have hfz10_0 := blk_frozen BK102.out 0; have hfz10_1 := blk_frozen BK102.out 1; have hfz10_2 := blk_frozen BK102.out 2))
  refine bodyPost_ret (results_cell_row rfl _ _ gb102 25 #[.int .i64 a0_0, .bool a0_1, .int .i64 a0_2] (0, 0) _ rfl (by (with_reducible repeat (first | refine blk_drewN ?_ _ | refine blk_drew ?_ | refine blk_alloc ?_ _)); refine blk_put (cs := #[.int .i64 a0_0, .bool a0_1, .int .i64 0]) ?_ 2 _ rfl; (with_reducible repeat (first | refine blk_drewN ?_ _ | refine blk_drew ?_ | refine blk_alloc ?_ _)); refine blk_put (cs := #[.int .i64 a0_0, .bool false, .int .i64 0]) ?_ 1 _ rfl; (with_reducible repeat (first | refine blk_drewN ?_ _ | refine blk_drew ?_ | refine blk_alloc ?_ _)); refine blk_put (cs := #[.int .i64 0, .bool false, .int .i64 0]) ?_ 0 _ rfl; (with_reducible repeat (first | refine blk_drewN ?_ _ | refine blk_drew ?_ | refine blk_alloc ?_ _)); refine blk_far ?_ NB102_103.out _; (with_reducible repeat (first | refine blk_drewN ?_ _ | refine blk_drew ?_ | refine blk_alloc ?_ _)); refine blk_far ?_ NB102_103.out _; (with_reducible repeat (first | refine blk_drewN ?_ _ | refine blk_drew ?_ | refine blk_alloc ?_ _)); refine blk_far ?_ NB102_103.out _; (with_reducible repeat (first | refine blk_drewN ?_ _ | refine blk_drew ?_ | refine blk_alloc ?_ _)); exact BK102.out) Try.underlying25 rfl (by kernel_rfl)) rfl ?_
  exact ⟨by first | rfl | (simp [errW_none, errW_some] <;> rfl) | (simp [*, errW_none, errW_some] <;> rfl), by repeat (first | (with_reducible first | exact HB.out | apply below_alloc | apply pw_below_drewN | apply below_drew1 | refine below_set ?_ GE101.out | refine below_set ?_ GE102.out | refine below_set ?_ GE103.out) | exact HB.out)⟩

end Go.Proofs.Ytcinaflmpdmdaaa.Q
end
