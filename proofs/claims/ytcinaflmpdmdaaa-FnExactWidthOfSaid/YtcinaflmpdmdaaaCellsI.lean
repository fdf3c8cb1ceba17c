/- The cells of a line, by the program. -/
import Derived.Test.YtcinaflmpdmdaaaCellsS
import Derived.Test.YtcinaflmpdmdaaaDecAt
namespace Go.Proofs.Ytcinaflmpdmdaaa
open Go.RowKit
set_option maxRecDepth 20000 in
set_option maxHeartbeats 4000000 in
theorem cells_c (A : Option Addr) (n c : Nat) (xs : List Int) (w : World) (hn : xs.length = n) (hx : Row eU 1 w A xs) (hB : Byt xs) (hc : n ≤ c) (hm : n ≤ 1048576)
    (R : Ending → World → Prop) (h : ∀ A' c' w', Own eCel 3 46 w' w.heap.size (.slice A' (cellsOf xs).length c') (cellsOf xs) → (cellsOf xs).length ≤ c' → c' ≤ maxLen → Below w.heap.size w w' → R (.returned (.slice A' (cellsOf xs).length c')) w') :
    Calls Try.prog 59 #[.slice A n c] w R := by
  have H := Lib.hid h
  have HX := Lib.hid hx
  have HB := Lib.hid hB
  have HN := Lib.hid hn
  clear h hx hB hn
  (change Calls _ _ _ _ (Fin R); go_enter Try.func59, Try.ntmps59)
  go_wp2_with (fail)
  go_loopg [3, 4] n (fun gk v3 v4 wr => ∃ (p m d : Nat) (B : Option Addr) (out : List Cel), gk = n - p ∧ p ≤ n ∧ v3 = .slice B m d ∧ v4 = .int .i64 p ∧ out.length = m ∧ m ≤ 4 * p ∧ m ≤ d ∧ d ≤ maxLen ∧ Own eCel 3 46 wr w.heap.size (.slice B m d) out ∧ Hid (cellsOf xs = cellsR xs p out) ∧ Below w.heap.size w wr)
  case atStart => exact ⟨0, 0, 0, some ⟨w.heap.size, 0, none⟩, [], by omega, by omega, rfl, rfl, rfl, by omega, Nat.le_refl _, by unfold maxLen; omega, Own.lit w _ [] 0 (Nat.le_refl _) rfl (by unfold maxLen; omega) ⟨rfl, fun i x hx => by simp at hx⟩, rfl, by (repeat' (first | (with_reducible exact Below.refl _ _) | (with_reducible assumption) | (with_reducible refine Below.alloc ?_ ?_ _) | (with_reducible refine bdN ?_ _) | (with_reducible refine Below.drew ?_) | (with_reducible refine Below.setCell ?_ ?_ _) | go_size))⟩
  case round =>
    obtain ⟨p, m, d, B, out, rfl, hp, rfl, rfl, hlen, hm4, hd1, hd2, ho, HE, hG⟩ := hrel
    by_cases hlt : p < n
    · obtain ⟨L, hLe⟩ : ∃ L, (shownL xs p m).1 = L := ⟨_, rfl⟩
      obtain ⟨q, hqe⟩ : ∃ q : Nat, (shownL xs p m).2 = (q : Int) := ⟨(shownL xs p m).2.toNat, by have := shown_n (xs := xs) (i := p) (by rw [HN.out]; exact hlt) m; omega⟩
      obtain ⟨hq1, hq2, hq3, hq4⟩ := shown_n (xs := xs) (i := p) (by rw [HN.out]; exact hlt) m
      rw [hqe] at hq1 hq2 hq3
      rw [HN.out, Int.toNat_natCast] at hq3
      rw [hLe] at hq4
      obtain ⟨k, hk⟩ : ∃ k, L.length = k := ⟨_, rfl⟩
      rw [hk] at hq4
      have HK := Lib.hid hk
      have HS := Lib.hid (show shownL xs p m = (L, (q : Int)) from Prod.ext hLe hqe)
      have HLe := Lib.hid hlen
      have HO := Lib.hid ho
      obtain ⟨b, hb⟩ := get_lt (xs := xs) (i := p) (by rw [HN.out]; exact hlt)
      obtain ⟨ad, rfl, a0⟩ := HX.out.eU hb
      obtain ⟨hb1, hb2⟩ := HB.out p b hb
      have HBT := Lib.hid (show bt xs p = b by simp [bt, hb])
      replace a0 := cell_below hG a0
      obtain ⟨W, hW⟩ : ∃ W, W = wr.alloc (Obj.cells #[] 2) := ⟨_, rfl⟩
      obtain ⟨bz, hbz⟩ : ∃ bz, bz = wr.heap.size := ⟨_, rfl⟩
      have hbw : w.heap.size ≤ bz := by rw [hbz]; exact hG.size
      have GW : Below wr.heap.size wr W := by rw [hW]; (repeat' (first | (with_reducible exact Below.refl _ _) | (with_reducible assumption) | (with_reducible refine Below.alloc ?_ ?_ _) | (with_reducible refine bdN ?_ _) | (with_reducible refine Below.drew ?_) | (with_reducible refine Below.setCell ?_ ?_ _) | go_size))
      have HOW := Lib.hid (show Own eI 1 2 W bz (.slice (some ⟨wr.heap.size, 0, none⟩) 0 0) [] by rw [hW, hbz]; exact Own.lit wr _ [] 0 (Nat.le_refl _) rfl (by unfold maxLen; omega) ⟨rfl, fun i x hx => by simp at hx⟩)
      have HOC := Lib.hid (HO.out.below GW)
      have hGW := hG.trans (GW.mono hG.size)
      have HW := Lib.hid hW
      obtain ⟨cd, chh, us, hD⟩ : ∃ cd chh us, decR xs p = (cd, chh, us) := ⟨_, _, _, rfl⟩
      have HD := Lib.hid hD
      clear hLe hqe ho hlen hk hb hW hD
      go_wp2_with (fail)
      rw [← HW.out]
      refine DecodeAt_c (some ad) n c xs p _ HN.out (HX.out.below hGW) HB.out hc hm hlt _ ?_
      intro w1 hb1
      rw [HD.out]
      have hG1 := hGW.trans (hb1.mono hGW.size)
      obtain ⟨W1, hW1⟩ : ∃ W1, W1 = w1.alloc (Obj.cells #[.int .i64 cd, .int .i64 chh, .int .i64 us] 125) := ⟨_, rfl⟩
      obtain ⟨c1, f1, hz1, GW1⟩ := box1 _ _ _ W1 hW1
      have hG2 := hG1.trans (GW1.mono hG1.size)
      have HO2 := Lib.hid ((HOC.out.below hb1).below GW1)
      have HOW2 := Lib.hid ((HOW.out.below hb1).below GW1)
      have HW1 := Lib.hid hW1
      have hzz : bz ≤ W1.heap.size := by rw [hbz]; have := GW.size; have := hb1.size; omega
      clear hW1 hb1 f1 hbz
      by_cases h9 : b = 9
      · subst h9
        have hs : shownL xs p m = (List.replicate (4 - m % 4) 32, 1) := by unfold shownL; rw [HBT.out, if_pos rfl]
        rw [HS.out] at hs
        obtain ⟨hL', hq'⟩ := Prod.mk.inj hs
        have hq1' : q = 1 := by omega
        have HS1 := Lib.hid (show shownL xs p m = (L, 1) by rw [HS.out, hq1']; rfl)
        have hk' : k = 4 - m % 4 := by rw [← HK.out, hL', List.length_replicate]
        have HL' := Lib.hid hL'
        have HK' := Lib.hid hk'
        clear hs hL' hq'
        subst hq1'
        have hk1 : 1 ≤ k := by omega
        clear hk' HS
        have HS := HS1
        clear HS1
        go_wp2_with (fail)
        go_loopg [7] k (fun gk v7 ws => ∃ (j d7 : Nat) (B7 : Option Addr), gk = k - j ∧ j ≤ k ∧ v7 = .slice B7 j d7 ∧ j ≤ d7 ∧ d7 ≤ maxLen ∧ Own eI 1 2 ws bz (.slice B7 j d7) (List.replicate j 32) ∧ Own eCel 3 46 ws w.heap.size (.slice B m d) out ∧ bz ≤ ws.heap.size ∧ Below w.heap.size w ws)
        case atStart => rw [← HW1.out]; exact ⟨0, 0, some ⟨wr.heap.size, 0, none⟩, by omega, by omega, rfl, by omega, by unfold maxLen; omega, HOW2.out, HO2.out, hzz, hG2⟩
        case round =>
          obtain ⟨j, d7, B7, rfl, hj, rfl, hd7, hd72, hoI, hoC, hzj, hG1⟩ := hrel
          have HOI := Lib.hid hoI
          have HOC' := Lib.hid hoC
          clear hoI hoC
          by_cases hjk : j < k
          · rcases Nat.eq_zero_or_pos j with rfl | hjp
            · go_wp2_with (first | (at_builtin; refine wp_append1 eI 1 _ bz rfl _ _ 75 2 2 rfl Try.underlying75 (.int .i64 0) 8 info_i64 0 rfl eI_len (by decide) eI_one _ (List.replicate 0 32) rfl HOI.out 32 _ rfl rfl (by decide) (by decide) hzj ?_; intro v' w' ho' hg'))
              go_roundg (k - (0 + 1))
              case measure => omega
              case rel =>
                rw [show List.replicate 0 (32 : Int) ++ [32] = List.replicate (0 + 1) 32 from rfl] at ho'
                obtain ⟨B', d', rfl, h1, h2, _⟩ := ho'.row
                rw [List.length_replicate] at h1 ho' ⊢
                exact ⟨0 + 1, d', B', rfl, by omega, rfl, h1, h2, ho', HOC'.out.grown hg' (HOC'.out.apart_ty HOI.out (by decide)), Nat.le_trans hzj hg'.size, below_own hG1 hg' (fun g e => Nat.le_trans hbw (HOI.out.lt e).1) hG1.size⟩
            · have hgd : ¬ ((m : Int) + (j : Int)) % 4 = 0 := by have := HK'.out; omega
              have hgd2 : ((j : Int) == 0) = false := by simp; omega
              have hgd3 : (((m : Int) + (j : Int)) % 4 != 0) = true := by simp; omega
              go_wp2_with (first | (at_builtin; (refine wp_append1 eI 1 _ bz rfl _ _ 75 2 2 rfl Try.underlying75 (.int .i64 0) 8 info_i64 0 rfl eI_len (by decide) eI_one _ (List.replicate j 32) rfl HOI.out 32 _ rfl rfl (by simp; omega) (by simp; unfold maxLen; omega) hzj ?_); intro v' w' ho' hg'))
              go_roundg (k - (j + 1))
              case measure => omega
              case rel =>
                rw [← List.replicate_succ'] at ho'
                obtain ⟨B', d', rfl, h1, h2, _⟩ := ho'.row
                rw [List.length_replicate] at h1 ho' ⊢
                exact ⟨j + 1, d', B', rfl, by omega, rfl, h1, h2, ho', HOC'.out.grown hg' (HOC'.out.apart_ty HOI.out (by decide)), Nat.le_trans hzj hg'.size, below_own hG1 hg' (fun g e => Nat.le_trans hbw (HOI.out.lt e).1) hG1.size⟩
          · have hjk2 : j = k := by omega
            subst hjk2
            have hgd : ((m : Int) + (j : Int)) % 4 = 0 := by have := HK'.out; omega
            have hgd2 : ((j : Int) == 0) = false := by simp; omega
            have hgd3 : (((m : Int) + (j : Int)) % 4 != 0) = false := by simp; omega
            have HO1 := Lib.hid (show Own eI 1 2 wr bz (.slice B7 j d7) L by rw [HL'.out, ← HK'.out]; exact HOI.out)
            have HO2 := HOC'
            go_wp2_with (fail)
            clear hgd hgd2 hgd3
            go_loopg [3, 76] j (fun gk v3 v7 wr => ∃ (jj m' d' : Nat) (B' : Option Addr) (out' : List Cel), gk = j - jj ∧ jj ≤ j ∧ v3 = .slice B' m' d' ∧ v7 = .int .i64 jj ∧ out'.length = m' ∧ m' = m + jj ∧ m' ≤ d' ∧ d' ≤ maxLen ∧ Own eCel 3 46 wr w.heap.size (.slice B' m' d') out' ∧ Own eI 1 2 wr 0 (.slice B7 j d7) L ∧ Hid (out' = out ++ (L.take jj).map fun c => (⟨c, p, 1⟩ : Cel)) ∧ Below w.heap.size w wr)
            case atStart => exact ⟨0, m, d, B, out, rfl, by omega, rfl, rfl, HLe.out, rfl, hd1, hd2, HO2.out, HO1.out.lower (Nat.zero_le _), by simp [Hid], hG1⟩
            case round =>
              obtain ⟨jj, m', d', B', out', rfl, hj, rfl, rfl, hlen', hmj, hd1', hd2', ho', hoL, HF, hG'⟩ := hrel
              by_cases hjk : jj < j
              · obtain ⟨x, hx⟩ := get_lt (xs := L) (i := jj) (by rw [HK.out]; exact hjk)
                obtain ⟨ad, rfl, a0⟩ := hoL.rowOf.eI hx
                have HO' := Lib.hid ho'
                have HOL := Lib.hid hoL
                have HLen := Lib.hid hlen'
                have HX' := Lib.hid hx
                have hbd : (out'.length + 1) * 24 ≤ 140737488355328 := by rw [hlen']; omega
                have hbd2 : out'.length + 1 ≤ maxLen := by rw [hlen']; unfold maxLen; omega
                have HBD := Lib.hid hbd
                have HBD2 := Lib.hid hbd2
                clear ho' hoL hlen' hx hbd hbd2
                go_wp2_with (first | (at_builtin; refine wp_append1 eCel 3 _ w.heap.size rfl _ _ 38 46 46 rfl Try.underlying38 (.agg #[.int .i64 0, .int .i64 0, .int .i64 0]) 24 info_cell ⟨0, 0, 0⟩ rfl eCel_len (by decide) eCel_one _ out' rfl HO'.out ⟨x, p, 1⟩ _ rfl rfl HBD.out HBD2.out hG'.size ?_; intro v' w' ho' hg'))
                go_roundg (j - (jj + 1))
                case measure => omega
                case rel =>
                  obtain ⟨B2, d2, rfl, h1, h2, _⟩ := ho'.row
                  have hll : (out' ++ [(⟨x, p, 1⟩ : Cel)]).length = m' + 1 := by rw [List.length_append, HLen.out]; rfl
                  rw [hll] at h1 ho' ⊢
                  refine ⟨jj + 1, m' + 1, d2, B2, _, rfl, by omega, rfl, by go_num, hll, by omega, h1, h2, ho', HOL.out.grown hg' (HOL.out.apart_ty HO'.out (by decide)), ?_, below_own hG' hg' (fun g e => (HO'.out.lt e).1) hG'.size⟩
                  simp only [Hid]
                  rw [HF.out, List.take_add_one, HX'.out]
                  simp
              · have hjk2 : jj = j := by omega
                subst hjk2
                have HO' := Lib.hid ho'
                have HLen := Lib.hid hlen'
                clear ho' hoL hlen'
                go_wp2_with (fail)
                go_roundg (n - (p + 1))
                case measure => omega
                case rel =>
                  refine ⟨p + 1, m', d', B', out', rfl, hq3, rfl, by go_num, HLen.out, by omega, hd1', hd2', HO'.out, ?_, hG'⟩
                  simp only [Hid]
                  rw [HE.out, cellsR_step (by rw [HN.out]; exact hlt), HLe.out, HS.out]
                  rw [show (1 : Int).toNat = 1 from by first | rfl | exact Int.toNat_natCast _]
                  congr 1
                  rw [HF.out, cellsAt, HS.out, List.take_of_length_le (by rw [HK.out]; exact Nat.le_refl _)]
      have hb9 : (b == 9) = false := by simp [h9]
      by_cases h32 : b < 32 ∨ b = 127
      · have hs : shownL xs p m = ([94, bits .xor .u8 b 64], 1) := by unfold shownL; rw [HBT.out, if_neg h9, if_pos h32]
        rw [HS.out] at hs
        obtain ⟨hL', hq'⟩ := Prod.mk.inj hs
        have hq1' : q = 1 := by omega
        have HS1 := Lib.hid (show shownL xs p m = (L, 1) by rw [HS.out, hq1']; rfl)
        subst hq1'
        clear HS
        have HS := HS1
        have hk' : k = 2 := by rw [← HK.out, hL']; rfl
        subst hk'
        have HL' := Lib.hid hL'
        obtain ⟨x0, x1⟩ := xor_in b (by omega) (by omega)
        obtain ⟨W2, hW2⟩ : ∃ W2, W2 = W1.alloc (Obj.cells #[.int .i64 94, .int .i64 (bits .xor .u8 b 64)] 2) := ⟨_, rfl⟩
        have GW2 : Below W1.heap.size W1 W2 := by rw [hW2]; (repeat' (first | (with_reducible exact Below.refl _ _) | (with_reducible assumption) | (with_reducible refine Below.alloc ?_ ?_ _) | (with_reducible refine bdN ?_ _) | (with_reducible refine Below.drew ?_) | (with_reducible refine Below.setCell ?_ ?_ _) | go_size))
        obtain ⟨A1, hA1⟩ : ∃ A1 : Option Addr, A1 = some ⟨w1.heap.size + 1, 0, none⟩ := ⟨_, rfl⟩
        have HA1 := Lib.hid hA1
        have HO1 := Lib.hid (show Own eI 1 2 W2 W1.heap.size (.slice A1 2 2) L by rw [hW2, hL', hA1, ← hz1]; exact Own.lit W1 _ [94, bits .xor .u8 b 64] 2 (Nat.le_refl _) rfl (by unfold maxLen; omega) (Enc.map _ _))
        have HO2' := Lib.hid (HO2.out.below GW2)
        clear HO2
        have HO2 := HO2'
        have hG1 := hG2.trans (GW2.mono hG2.size)
        have HW2 := Lib.hid hW2
        clear hs hL' hq' HS1 HO2' hW2 hA1
        rcases h32 with hlt32 | rfl
        all_goals
          go_wp2_with (fail)
          rw [← HW1.out, ← HW2.out]
          rw [← HA1.out]
          go_loopg [3, 76] 2 (fun gk v3 v7 wr => ∃ (jj m' d' : Nat) (B' : Option Addr) (out' : List Cel), gk = 2 - jj ∧ jj ≤ 2 ∧ v3 = .slice B' m' d' ∧ v7 = .int .i64 jj ∧ out'.length = m' ∧ m' = m + jj ∧ m' ≤ d' ∧ d' ≤ maxLen ∧ Own eCel 3 46 wr w.heap.size (.slice B' m' d') out' ∧ Own eI 1 2 wr 0 (.slice A1 2 2) L ∧ Hid (out' = out ++ (L.take jj).map fun c => (⟨c, p, (1 : Int)⟩ : Cel)) ∧ Below w.heap.size w wr)
          case atStart => exact ⟨0, m, d, B, out, rfl, by omega, rfl, rfl, HLe.out, rfl, hd1, hd2, HO2.out, HO1.out.lower (Nat.zero_le _), by simp [Hid], hG1⟩
          case round =>
            obtain ⟨jj, m', d', B', out', rfl, hj, rfl, rfl, hlen', hmj, hd1', hd2', ho', hoL, HF, hG'⟩ := hrel
            by_cases hjk : jj < 2
            · obtain ⟨x, hx⟩ := get_lt (xs := L) (i := jj) (by rw [HK.out]; exact hjk)
              obtain ⟨ad, rfl, a0⟩ := hoL.rowOf.eI hx
              have HO' := Lib.hid ho'
              have HOL := Lib.hid hoL
              have HLen := Lib.hid hlen'
              have HX' := Lib.hid hx
              have hbd : (out'.length + 1) * 24 ≤ 140737488355328 := by rw [hlen']; omega
              have hbd2 : out'.length + 1 ≤ maxLen := by rw [hlen']; unfold maxLen; omega
              have HBD := Lib.hid hbd
              have HBD2 := Lib.hid hbd2
              clear ho' hoL hlen' hx hbd hbd2
              go_wp2_with (first | (at_builtin; refine wp_append1 eCel 3 _ w.heap.size rfl _ _ 38 46 46 rfl Try.underlying38 (.agg #[.int .i64 0, .int .i64 0, .int .i64 0]) 24 info_cell ⟨0, 0, 0⟩ rfl eCel_len (by decide) eCel_one _ out' rfl HO'.out ⟨x, p, (1 : Int)⟩ _ rfl rfl HBD.out HBD2.out hG'.size ?_; intro v' w' ho' hg'))
              go_roundg (2 - (jj + 1))
              case measure => omega
              case rel =>
                obtain ⟨B2, d2, rfl, h1, h2, _⟩ := ho'.row
                have hll : (out' ++ [(⟨x, p, (1 : Int)⟩ : Cel)]).length = m' + 1 := by rw [List.length_append, HLen.out]; rfl
                rw [hll] at h1 ho' ⊢
                refine ⟨jj + 1, m' + 1, d2, B2, _, rfl, by omega, rfl, by go_num, hll, by omega, h1, h2, ho', HOL.out.grown hg' (HOL.out.apart_ty HO'.out (by decide)), ?_, below_own hG' hg' (fun g e => (HO'.out.lt e).1) hG'.size⟩
                simp only [Hid]
                rw [HF.out, List.take_add_one, HX'.out]
                simp
            · have hjk2 : jj = 2 := by omega
              subst hjk2
              have HO' := Lib.hid ho'
              have HLen := Lib.hid hlen'
              clear ho' hoL hlen'
              go_wp2_with (fail)
              go_roundg (n - (p + 1))
              case measure => omega
              case rel =>
                refine ⟨p + 1, m', d', B', out', rfl, hq3, rfl, by go_num, HLen.out, by omega, hd1', hd2', HO'.out, ?_, hG'⟩
                simp only [Hid]
                rw [HE.out, cellsR_step (by rw [HN.out]; exact hlt), HLe.out, HS.out]
                rw [show ((1 : Int)).toNat = 1 from by first | rfl | exact Int.toNat_natCast _]
                congr 1
                rw [HF.out, cellsAt, HS.out, List.take_of_length_le (by rw [HK.out]; exact Nat.le_refl _)]
      have hb32 : ¬ b < 32 := fun e => h32 (.inl e)
      have hb127 : (b == 127) = false := by have := fun e => h32 (.inr e); simp; exact this
      have h32' : ¬ (b < 32 ∨ b = 127) := h32
      clear h32
      by_cases hu : (dec xs p).2 = 0
      · have hs : shownL xs p m = ([60, hexF (b / 16), hexF (b % 16), 62], 1) := by unfold shownL; rw [HBT.out, if_neg h9, if_neg h32', if_pos hu]
        have hdc : cd = 5 := by have := HD.out; unfold decR at this; rw [if_pos hu] at this; cases this; rfl
        subst hdc
        rw [HS.out] at hs
        obtain ⟨hL', hq'⟩ := Prod.mk.inj hs
        have hq1' : q = 1 := by omega
        have HS1 := Lib.hid (show shownL xs p m = (L, 1) by rw [HS.out, hq1']; rfl)
        subst hq1'
        clear HS
        have HS := HS1
        have hk' : k = 4 := by rw [← HK.out, hL']; rfl
        subst hk'
        have m15 : bits .and .u8 b 15 = b % 16 := and15_u8 b hb1 hb2
        have i1 : (0 : Int) ≤ b / 16 := by omega
        have i2 : b / 16 < 16 := by omega
        have i3 : (0 : Int) ≤ b % 16 := by omega
        have i4 : b % 16 < 16 := by omega
        obtain ⟨A1, hA1⟩ : ∃ A1 : Option Addr, A1 = some ⟨w1.heap.size + 1, 0, none⟩ := ⟨_, rfl⟩
        have HA1 := Lib.hid hA1
        obtain ⟨W2, hW2⟩ : ∃ W2, W2 = (W1.alloc (Obj.cells #[.int .i64 60, .int .i64 (hexF (b / 16)), .int .i64 (hexF (b % 16)), .int .i64 62] 2)).drew := ⟨_, rfl⟩
        have GW2 : Below W1.heap.size W1 W2 := by rw [hW2]; (repeat' (first | (with_reducible exact Below.refl _ _) | (with_reducible assumption) | (with_reducible refine Below.alloc ?_ ?_ _) | (with_reducible refine bdN ?_ _) | (with_reducible refine Below.drew ?_) | (with_reducible refine Below.setCell ?_ ?_ _) | go_size))
        have HO1 := Lib.hid (show Own eI 1 2 W2 W1.heap.size (.slice A1 4 4) L by rw [hW2, hL', hA1, ← hz1]; exact (Own.lit W1 _ [60, hexF (b / 16), hexF (b % 16), 62] 4 (Nat.le_refl _) rfl (by unfold maxLen; omega) (Enc.map _ _)).drew)
        have HO2' := Lib.hid (HO2.out.below GW2)
        clear HO2
        have HO2 := HO2'
        have hG1 := hG2.trans (GW2.mono hG2.size)
        have HW2 := Lib.hid hW2
        have e1 := hex_at (b / 16) i1 i2 (show (b / 16).toNat < 16 by omega)
        have e2 := hex_at (b % 16) i3 i4 (show (b % 16).toNat < 16 by omega)
        unfold hexS at e1 e2
        have E1 := Lib.hid e1
        have E2 := Lib.hid e2
        clear hs hL' hq' h32' hu HS1 hW2 hA1 HO2' e1 e2
        go_wp2_with (fail)
        rw [← HW1.out]
        go_region
        rw [E1.out, E2.out, ← HW2.out, ← HA1.out]
        go_wp2_with (fail)
        go_loopg [3, 76] 4 (fun gk v3 v7 wr => ∃ (jj m' d' : Nat) (B' : Option Addr) (out' : List Cel), gk = 4 - jj ∧ jj ≤ 4 ∧ v3 = .slice B' m' d' ∧ v7 = .int .i64 jj ∧ out'.length = m' ∧ m' = m + jj ∧ m' ≤ d' ∧ d' ≤ maxLen ∧ Own eCel 3 46 wr w.heap.size (.slice B' m' d') out' ∧ Own eI 1 2 wr 0 (.slice A1 4 4) L ∧ Hid (out' = out ++ (L.take jj).map fun c => (⟨c, p, (1 : Int)⟩ : Cel)) ∧ Below w.heap.size w wr)
        case atStart => exact ⟨0, m, d, B, out, rfl, by omega, rfl, rfl, HLe.out, rfl, hd1, hd2, HO2.out, HO1.out.lower (Nat.zero_le _), by simp [Hid], hG1⟩
        case round =>
          obtain ⟨jj, m', d', B', out', rfl, hj, rfl, rfl, hlen', hmj, hd1', hd2', ho', hoL, HF, hG'⟩ := hrel
          by_cases hjk : jj < 4
          · obtain ⟨x, hx⟩ := get_lt (xs := L) (i := jj) (by rw [HK.out]; exact hjk)
            obtain ⟨ad, rfl, a0⟩ := hoL.rowOf.eI hx
            have HO' := Lib.hid ho'
            have HOL := Lib.hid hoL
            have HLen := Lib.hid hlen'
            have HX' := Lib.hid hx
            have hbd : (out'.length + 1) * 24 ≤ 140737488355328 := by rw [hlen']; omega
            have hbd2 : out'.length + 1 ≤ maxLen := by rw [hlen']; unfold maxLen; omega
            have HBD := Lib.hid hbd
            have HBD2 := Lib.hid hbd2
            clear ho' hoL hlen' hx hbd hbd2
            go_wp2_with (first | (at_builtin; refine wp_append1 eCel 3 _ w.heap.size rfl _ _ 38 46 46 rfl Try.underlying38 (.agg #[.int .i64 0, .int .i64 0, .int .i64 0]) 24 info_cell ⟨0, 0, 0⟩ rfl eCel_len (by decide) eCel_one _ out' rfl HO'.out ⟨x, p, (1 : Int)⟩ _ rfl rfl HBD.out HBD2.out hG'.size ?_; intro v' w' ho' hg'))
            go_roundg (4 - (jj + 1))
            case measure => omega
            case rel =>
              obtain ⟨B2, d2, rfl, h1, h2, _⟩ := ho'.row
              have hll : (out' ++ [(⟨x, p, (1 : Int)⟩ : Cel)]).length = m' + 1 := by rw [List.length_append, HLen.out]; rfl
              rw [hll] at h1 ho' ⊢
              refine ⟨jj + 1, m' + 1, d2, B2, _, rfl, by omega, rfl, by go_num, hll, by omega, h1, h2, ho', HOL.out.grown hg' (HOL.out.apart_ty HO'.out (by decide)), ?_, below_own hG' hg' (fun g e => (HO'.out.lt e).1) hG'.size⟩
              simp only [Hid]
              rw [HF.out, List.take_add_one, HX'.out]
              simp
          · have hjk2 : jj = 4 := by omega
            subst hjk2
            have HO' := Lib.hid ho'
            have HLen := Lib.hid hlen'
            clear ho' hoL hlen'
            go_wp2_with (fail)
            go_roundg (n - (p + 1))
            case measure => omega
            case rel =>
              refine ⟨p + 1, m', d', B', out', rfl, hq3, rfl, by go_num, HLen.out, by omega, hd1', hd2', HO'.out, ?_, hG'⟩
              simp only [Hid]
              rw [HE.out, cellsR_step (by rw [HN.out]; exact hlt), HLe.out, HS.out]
              rw [show ((1 : Int)).toNat = 1 from by first | rfl | exact Int.toNat_natCast _]
              congr 1
              rw [HF.out, cellsAt, HS.out, List.take_of_length_le (by rw [HK.out]; exact Nat.le_refl _)]
      · have hs : shownL xs p m = ([(dec xs p).1], (dec xs p).2) := by unfold shownL; rw [HBT.out, if_neg h9, if_neg h32', if_neg hu]
        have hdd : cd = 0 ∧ chh = (dec xs p).1 ∧ us = (dec xs p).2 := by have := HD.out; unfold decR at this; rw [if_neg hu] at this; cases this; exact ⟨rfl, rfl, rfl⟩
        obtain ⟨rfl, hch, hus⟩ := hdd
        rw [← hch, ← hus, HS.out] at hs
        obtain ⟨hL', hq'⟩ := Prod.mk.inj hs
        have hus2 : us = (q : Int) := hq'.symm
        subst hus2
        have hk' : k = 1 := by rw [← HK.out, hL']; rfl
        subst hk'
        obtain ⟨A1, hA1⟩ : ∃ A1 : Option Addr, A1 = some ⟨w1.heap.size + 1, 0, none⟩ := ⟨_, rfl⟩
        have HA1 := Lib.hid hA1
        obtain ⟨W2, hW2⟩ : ∃ W2, W2 = (W1.alloc (Obj.cells #[.int .i64 chh] 2)).drew := ⟨_, rfl⟩
        have GW2 : Below W1.heap.size W1 W2 := by rw [hW2]; (repeat' (first | (with_reducible exact Below.refl _ _) | (with_reducible assumption) | (with_reducible refine Below.alloc ?_ ?_ _) | (with_reducible refine bdN ?_ _) | (with_reducible refine Below.drew ?_) | (with_reducible refine Below.setCell ?_ ?_ _) | go_size))
        have HO1 := Lib.hid (show Own eI 1 2 W2 W1.heap.size (.slice A1 1 1) L by rw [hW2, hL', hA1, ← hz1]; exact (Own.lit W1 _ [chh] 1 (Nat.le_refl _) rfl (by unfold maxLen; omega) (Enc.map _ _)).drew)
        have HO2' := Lib.hid (HO2.out.below GW2)
        clear HO2
        have HO2 := HO2'
        have hG1 := hG2.trans (GW2.mono hG2.size)
        have HW2 := Lib.hid hW2
        clear hs hL' hq' HO2' hW2 hA1 hch hu h32' hus
        go_wp2_with (fail)
        rw [← HW1.out]
        go_region
        go_wp2_with (fail)
        rw [← HW2.out, ← HA1.out]
        go_loopg [3, 76] 1 (fun gk v3 v7 wr => ∃ (jj m' d' : Nat) (B' : Option Addr) (out' : List Cel), gk = 1 - jj ∧ jj ≤ 1 ∧ v3 = .slice B' m' d' ∧ v7 = .int .i64 jj ∧ out'.length = m' ∧ m' = m + jj ∧ m' ≤ d' ∧ d' ≤ maxLen ∧ Own eCel 3 46 wr w.heap.size (.slice B' m' d') out' ∧ Own eI 1 2 wr 0 (.slice A1 1 1) L ∧ Hid (out' = out ++ (L.take jj).map fun c => (⟨c, p, (q : Int)⟩ : Cel)) ∧ Below w.heap.size w wr)
        case atStart => exact ⟨0, m, d, B, out, rfl, by omega, rfl, rfl, HLe.out, rfl, hd1, hd2, HO2.out, HO1.out.lower (Nat.zero_le _), by simp [Hid], hG1⟩
        case round =>
          obtain ⟨jj, m', d', B', out', rfl, hj, rfl, rfl, hlen', hmj, hd1', hd2', ho', hoL, HF, hG'⟩ := hrel
          by_cases hjk : jj < 1
          · obtain ⟨x, hx⟩ := get_lt (xs := L) (i := jj) (by rw [HK.out]; exact hjk)
            obtain ⟨ad, rfl, a0⟩ := hoL.rowOf.eI hx
            have HO' := Lib.hid ho'
            have HOL := Lib.hid hoL
            have HLen := Lib.hid hlen'
            have HX' := Lib.hid hx
            have hbd : (out'.length + 1) * 24 ≤ 140737488355328 := by rw [hlen']; omega
            have hbd2 : out'.length + 1 ≤ maxLen := by rw [hlen']; unfold maxLen; omega
            have HBD := Lib.hid hbd
            have HBD2 := Lib.hid hbd2
            clear ho' hoL hlen' hx hbd hbd2
            go_wp2_with (first | (at_builtin; refine wp_append1 eCel 3 _ w.heap.size rfl _ _ 38 46 46 rfl Try.underlying38 (.agg #[.int .i64 0, .int .i64 0, .int .i64 0]) 24 info_cell ⟨0, 0, 0⟩ rfl eCel_len (by decide) eCel_one _ out' rfl HO'.out ⟨x, p, (q : Int)⟩ _ rfl rfl HBD.out HBD2.out hG'.size ?_; intro v' w' ho' hg'))
            go_roundg (1 - (jj + 1))
            case measure => omega
            case rel =>
              obtain ⟨B2, d2, rfl, h1, h2, _⟩ := ho'.row
              have hll : (out' ++ [(⟨x, p, (q : Int)⟩ : Cel)]).length = m' + 1 := by rw [List.length_append, HLen.out]; rfl
              rw [hll] at h1 ho' ⊢
              refine ⟨jj + 1, m' + 1, d2, B2, _, rfl, by omega, rfl, by go_num, hll, by omega, h1, h2, ho', HOL.out.grown hg' (HOL.out.apart_ty HO'.out (by decide)), ?_, below_own hG' hg' (fun g e => (HO'.out.lt e).1) hG'.size⟩
              simp only [Hid]
              rw [HF.out, List.take_add_one, HX'.out]
              simp
          · have hjk2 : jj = 1 := by omega
            subst hjk2
            have HO' := Lib.hid ho'
            have HLen := Lib.hid hlen'
            clear ho' hoL hlen'
            go_wp2_with (fail)
            go_roundg (n - (p + q))
            case measure => omega
            case rel =>
              refine ⟨p + q, m', d', B', out', rfl, hq3, rfl, by go_num, HLen.out, by omega, hd1', hd2', HO'.out, ?_, hG'⟩
              simp only [Hid]
              rw [HE.out, cellsR_step (by rw [HN.out]; exact hlt), HLe.out, HS.out]
              rw [show ((q : Int)).toNat = q from by first | rfl | exact Int.toNat_natCast _]
              congr 1
              rw [HF.out, cellsAt, HS.out, List.take_of_length_le (by rw [HK.out]; exact Nat.le_refl _)]
    · have hpn : p = n := by omega
      subst hpn
      have hcl : cellsOf xs = out := by rw [HE.out, cellsR_end (by rw [HN.out]; omega)]
      have HO := Lib.hid ho
      have HLe := Lib.hid hlen
      clear ho hlen
      go_wp2_with (fail)
      go_ret
      have := H.out B d _ (by rw [hcl, HLe.out]; exact HO.out) (by rw [hcl, HLe.out]; exact hd1) hd2 hG
      rw [hcl, HLe.out] at this
      exact this
end Go.Proofs.Ytcinaflmpdmdaaa
