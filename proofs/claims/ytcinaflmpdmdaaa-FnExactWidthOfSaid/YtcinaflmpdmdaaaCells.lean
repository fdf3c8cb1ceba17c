/- The cells of a line: what a byte or a character is shown as; the reference's side. -/
import Derived.Test.YtcinaflmpdmdaaaDec
import Derived.Test.YtcinaflmpdmdaaaFamInt64
import Derived.Test.YtcinaflmpdmdaaaFamCell
namespace Go.Proofs.Ytcinaflmpdmdaaa
open Go.RowKit
def hexF (v : Int) : Int := if v < 10 then 48 + v else 55 + v
def shownL (xs : List Int) (i col : Nat) : List Int × Int :=
  if bt xs i = 9 then (List.replicate (4 - col % 4) 32, 1)
  else if bt xs i < 32 ∨ bt xs i = 127 then ([94, bits .xor .u8 (bt xs i) 64], 1)
  else if (dec xs i).2 = 0 then ([60, hexF (bt xs i / 16), hexF (bt xs i % 16), 62], 1)
  else ([(dec xs i).1], (dec xs i).2)
def hexS : ByteArray := ⟨#[48, 49, 50, 51, 52, 53, 54, 55, 56, 57, 65, 66, 67, 68, 69, 70]⟩
theorem hex_get (k : Nat) (h : k < hexS.size) : ((hexS[k]'h).toNat : Int) = hexF k := by
  have hk : k < 16 := h
  have : k = 0 ∨ k = 1 ∨ k = 2 ∨ k = 3 ∨ k = 4 ∨ k = 5 ∨ k = 6 ∨ k = 7 ∨ k = 8 ∨ k = 9 ∨ k = 10 ∨ k = 11 ∨ k = 12 ∨ k = 13 ∨ k = 14 ∨ k = 15 := by omega
  rcases this with rfl | rfl | rfl | rfl | rfl | rfl | rfl | rfl | rfl | rfl | rfl | rfl | rfl | rfl | rfl | rfl <;> rfl
theorem hexF_in (k : Int) (h0 : 0 ≤ k) (h1 : k < 16) : 48 ≤ hexF k ∧ hexF k ≤ 70 := by unfold hexF; split <;> omega
theorem hex_at (v : Int) (h0 : 0 ≤ v) (h1 : v < 16) (h : v.toNat < hexS.size) : wrap64 ((hexS[v.toNat]'h).toNat : Int) = hexF v := by
  have e := hex_get v.toNat h
  have e1 : ((v.toNat : Nat) : Int) = v := by omega
  have e2 := hexF_in v h0 h1
  rw [e1] at e
  rw [e]
  exact IntWalk.wrap64_in _ (by omega)
theorem l1Digit_c (v : Int) (h0 : 0 ≤ v) (h1 : v < 16) (w : World) (R : Ending → World → Prop) (h : R (.returned (.int .i64 (hexF v))) w) : Calls Try.prog 122 #[.int .u8 v] w R := by
  obtain ⟨k, rfl⟩ : ∃ k : Nat, v = (k : Int) := ⟨v.toNat, by omega⟩
  have hk : k < 16 := by omega
  have H := Lib.hid h
  clear h
  (change Calls _ _ _ _ (Fin R); go_enter Try.func122, Try.ntmps122)
  go_wp2
  go_ret
  refine retI H.out ?_
  have e := hex_get k (show k < hexS.size from hk)
  have e2 := hexF_in k (by omega) (by omega)
  have e3 : ∀ (z : Int), z = hexF k → wrap64 z = hexF k := fun z hz => by rw [hz]; exact IntWalk.wrap64_in _ (by omega)
  exact e3 _ e
theorem xor_in (b : Int) (h0 : 0 ≤ b) (h1 : b ≤ 127) : 0 ≤ bits .xor .u8 b 64 ∧ bits .xor .u8 b 64 ≤ 127 := by
  obtain ⟨k, rfl⟩ : ∃ k : Nat, b = (k : Int) := ⟨b.toNat, by omega⟩
  have h : ∀ k : Nat, k < 128 → (decide (0 ≤ bits .xor .u8 (k : Int) 64 ∧ bits .xor .u8 (k : Int) 64 ≤ 127)) = true := by decide +kernel
  exact of_decide_eq_true (h k (by omega))
theorem info_i64 : (Try.prog.info? 2).map (fun i => (i.zero, i.size, i.bytes)) = some (some (.int .i64 0), 1, 8) := by kernel_rfl
theorem eI_one (y : Int) : ∀ u ∈ eI y, u.oneCell' = true := by simp [eI, Value.oneCell']
theorem ret_shown {R : Ending → World → Prop} {w : World} {A : Option Addr} {n n' c : Nat} {m m' : Int} (h : R (.returned (.tuple #[.slice A n c, .int .i64 m])) w) (e1 : n' = n) (e2 : m' = m) : Fin R (.returned (.tuple #[.slice A n' c, .int .i64 m'])) w := by rw [e1, e2]; exact h
set_option maxHeartbeats 2000000 in
theorem l1Shown_c (A : Option Addr) (n c : Nat) (xs : List Int) (i col : Nat) (w : World) (hn : xs.length = n) (hx : Row eU 1 w A xs) (hB : Byt xs) (hm : n ≤ 1048576) (hi : i < n) (hcol : col ≤ 16777216) (L : List Int) (m : Int) (hL : shownL xs i col = (L, m))
    (R : Ending → World → Prop) (h : ∀ A' c' w', Own eI 1 2 w' w.heap.size (.slice A' L.length c') L → L.length ≤ c' → c' ≤ maxLen → Below w.heap.size w w' → R (.returned (.tuple #[.slice A' L.length c', .int .i64 m])) w') :
    Calls Try.prog 100 #[.slice A n c, .int .i64 i, .int .i64 col] w R := by
  have H := Lib.hid h
  have HL := Lib.hid hL
  clear h hL
  obtain ⟨b, hb⟩ := get_lt (xs := xs) (i := i) (by omega)
  obtain ⟨ad, rfl, a0⟩ := hx.eU hb
  obtain ⟨hb1, hb2⟩ := hB i b hb
  have hbt : bt xs i = b := by simp [bt, hb]
  have HR := Lib.hid hx
  have HB := Lib.hid hB
  have HN := Lib.hid hn
  have HT := Lib.hid hbt
  have HI := Lib.hid hi
  obtain ⟨d, hd⟩ : ∃ d, dec xs i = d := ⟨_, rfl⟩
  obtain ⟨ch, us⟩ := d
  have HD := Lib.hid hd
  clear hx hB hn hbt hb hd
  have key : ∀ (W : World) (l : List Int) (k : Nat) (q : Int), Below w.heap.size w W → L = l → k = l.length → q = m → l.length ≤ 8 → Fin R (.returned (.tuple #[.slice (some ⟨W.heap.size, 0, none⟩) k k, .int .i64 q])) (W.alloc (.cells (l.map (Value.int .i64)).toArray 2)) := fun W l k q hG hl hk hq h8 => by
    subst hl hk hq
    refine H.out _ _ _ (Own.lower (Own.lit W _ L L.length (Nat.le_refl _) rfl ?_ (Enc.map _ L)) hG.size) (Nat.le_refl _) ?_ (Below.alloc hG hG.size _)
    · unfold maxLen; omega
    · unfold maxLen; omega
  have K := Lib.hid key
  clear key
  by_cases h9 : b = 9
  · subst h9
    have hs : shownL xs i col = (List.replicate (4 - col % 4) 32, 1) := by unfold shownL; rw [HT.out, if_pos rfl]
    rw [HL.out] at hs
    have hL := Lib.hid (congrArg Prod.fst hs)
    have hM := Lib.hid (congrArg Prod.snd hs)
    obtain ⟨k0, hk0⟩ : ∃ k0, col % 4 = k0 := ⟨_, rfl⟩
    have hk1 : k0 < 4 := by omega
    have hk2 : (col : Int) % 4 = (k0 : Int) := by omega
    rw [hk0] at hL
    clear hs hk0
    (change Calls _ _ _ _ (Fin R); go_enter Try.func100, Try.ntmps100)
    go_wp2_with (fail)
    go_loopg [9, 10] (4 - k0) (fun gk v9 v10 wr => ∃ (j : Nat) (B : Option Addr) (d : Nat), gk = 4 - k0 - j ∧ k0 + j ≤ 4 ∧ v9 = .slice B j d ∧ v10 = .int .i64 ((k0 + j : Nat) : Int) ∧ j ≤ d ∧ d ≤ maxLen ∧ Own eI 1 2 wr w.heap.size (.slice B j d) (List.replicate j 32) ∧ Below w.heap.size w wr)
    case atStart => exact ⟨0, some ⟨w.heap.size, 0, none⟩, 0, by omega, by omega, rfl, rfl, Nat.le_refl _, by unfold maxLen; omega, Own.lit w _ [] 0 (Nat.le_refl _) rfl (by unfold maxLen; omega) (Enc.map _ []), by (repeat' (first | (with_reducible exact Below.refl _ _) | (with_reducible assumption) | (with_reducible refine Below.alloc ?_ ?_ _) | (with_reducible refine bdN ?_ _) | (with_reducible refine Below.drew ?_) | (with_reducible refine Below.setCell ?_ ?_ _) | go_size))⟩
    case round =>
      obtain ⟨j, B, d, rfl, hj, rfl, rfl, hd1, hd2, ho, hG⟩ := hrel
      by_cases hlt : k0 + j < 4
      · have HO := Lib.hid ho
        clear ho
        go_wp2_with (first | (at_builtin; refine wp_append1 eI 1 _ w.heap.size rfl _ _ 75 2 2 rfl Try.underlying75 (.int .i64 0) 8 info_i64 0 rfl eI_len (by decide) eI_one _ (List.replicate j 32) rfl HO.out 32 _ rfl rfl (by simp; omega) (by simp; unfold maxLen; omega) hG.size ?_; intro v' w' ho' hg'))
        go_roundg (4 - k0 - (j + 1))
        case measure => omega
        case rel =>
          rw [← List.replicate_succ'] at ho'
          obtain ⟨B', d', rfl, h1, h2, _⟩ := ho'.row
          rw [List.length_replicate] at h1 ho' ⊢
          exact ⟨j + 1, B', d', rfl, by omega, rfl, by go_num, h1, h2, ho', below_own hG hg' (fun g e => (HO.out.lt e).1) hG.size⟩
      · have hj4 : j = 4 - k0 := by omega
        subst hj4
        have HO := Lib.hid ho
        clear ho
        go_wp2
        go_ret2
        have hl := hL.out
        have hmm := hM.out
        change L = _ at hl
        change m = _ at hmm
        subst hl hmm
        refine ret_shown (H.out B d _ ?_ ?_ hd2 hG) (by simp) rfl
        · rw [List.length_replicate]; exact HO.out
        · rw [List.length_replicate]; exact hd1
  by_cases h32 : b < 32 ∨ b = 127
  · have hs : shownL xs i col = ([94, bits .xor .u8 b 64], 1) := by unfold shownL; rw [HT.out, if_neg h9, if_pos h32]
    rw [HL.out] at hs
    have hL := Lib.hid (congrArg Prod.fst hs)
    have hM := Lib.hid (congrArg Prod.snd hs)
    obtain ⟨x0, x1⟩ := xor_in b (by omega) (by omega)
    clear hs
    rcases h32 with hlt | rfl
    all_goals
      (change Calls _ _ _ _ (Fin R); go_enter Try.func100, Try.ntmps100)
      go_wp2_with (fail)
      go_ret2
      exact K.out _ [94, bits .xor .u8 _ 64] 2 1 (Below.refl _ _) hL.out rfl hM.out.symm (by simp)
  have hdig1 : 0 ≤ b / 16 ∧ b / 16 < 16 := by omega
  have h1 : ¬ b < 32 := by omega
  have h2 : ¬ b = 127 := by omega
  by_cases hu : us = 0
  · have hs : shownL xs i col = ([60, hexF (b / 16), hexF (b % 16), 62], 1) := by unfold shownL; rw [HT.out, if_neg h9, if_neg h32, HD.out, if_pos hu]
    rw [HL.out] at hs
    have hL := Lib.hid (congrArg Prod.fst hs)
    have hM := Lib.hid (congrArg Prod.snd hs)
    clear hs h32
    (change Calls _ _ _ _ (Fin R); go_enter Try.func100, Try.ntmps100)
    go_wp2_with (fail)
    refine l1Decode_c (some ad) n c xs i _ HN.out HR.out HB.out hm HI.out _ ?_
    rw [HD.out]
    go_wp2_with (first | (go_at_call 122; refine l1Digit_c _ (by omega) (by omega) _ _ ?_))
    go_ret2
    exact K.out _ [60, hexF (b / 16), hexF (b % 16), 62] 4 1 (Below.refl _ _) hL.out rfl hM.out.symm (by simp)
  · have hs : shownL xs i col = ([ch], us) := by unfold shownL; rw [HT.out, if_neg h9, if_neg h32, HD.out, if_neg hu]
    rw [HL.out] at hs
    have hL := Lib.hid (congrArg Prod.fst hs)
    have hM := Lib.hid (congrArg Prod.snd hs)
    clear hs h32
    (change Calls _ _ _ _ (Fin R); go_enter Try.func100, Try.ntmps100)
    go_wp2_with (fail)
    refine l1Decode_c (some ad) n c xs i _ HN.out HR.out HB.out hm HI.out _ ?_
    rw [HD.out]
    go_wp2_with (fail)
    go_ret2
    exact K.out _ [ch] 1 us (Below.refl _ _) hL.out rfl hM.out.symm (by simp)
end Go.Proofs.Ytcinaflmpdmdaaa
