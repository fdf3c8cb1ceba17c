/- Bytes and the characters that they write: decoding, encoding. -/
import Derived.Test.YtcinaflmpdmdaaaChar
import Derived.Test.YtcinaflmpdmdaaaFamByte
import Derived.Test.YtcinaflmpdmdaaaBits
import Derived.Laws.BytesArg
namespace Go.Proofs.Ytcinaflmpdmdaaa
open Go.RowKit
def bt (xs : List Int) (i : Nat) : Int := xs.getD i 0
def more (xs : List Int) (i : Nat) : Int := if xs.length ≤ i ∨ bt xs i < 128 ∨ 191 < bt xs i then -1 else bt xs i - 128
abbrev c3 (b x y : Int) : Int := (b - 224) * 4096 + x * 64 + y
def dec (xs : List Int) (i : Nat) : Int × Int :=
  if bt xs i < 128 then (bt xs i, 1)
  else if 194 ≤ bt xs i ∧ bt xs i < 224 ∧ 0 ≤ more xs (i + 1) then ((bt xs i - 192) * 64 + more xs (i + 1), 2)
  else if 224 ≤ bt xs i ∧ bt xs i < 240 ∧ 0 ≤ more xs (i + 1) ∧ 0 ≤ more xs (i + 2) ∧ 2048 ≤ c3 (bt xs i) (more xs (i + 1)) (more xs (i + 2)) ∧ isChr (c3 (bt xs i) (more xs (i + 1)) (more xs (i + 2))) then (c3 (bt xs i) (more xs (i + 1)) (more xs (i + 2)), 3)
  else (0, 0)
def enc (c : Int) : List Int := if c < 128 then [c] else if c < 2048 then [192 + c / 64, 128 + c % 64] else [224 + c / 4096, 128 + c / 64 % 64, 128 + c % 64]
def Byt (xs : List Int) : Prop := ∀ (i : Nat) y, xs[i]? = some y → 0 ≤ y ∧ y ≤ 255
theorem Byt.bt {xs : List Int} (h : Byt xs) (i : Nat) : 0 ≤ bt xs i ∧ bt xs i ≤ 255 := by
  unfold Go.Proofs.Ytcinaflmpdmdaaa.bt
  rw [List.getD_eq_getElem?_getD]
  cases hi : xs[i]? with
  | none => simp
  | some y => exact h i y hi
theorem more_in {xs : List Int} (i : Nat) : -1 ≤ more xs i ∧ more xs i ≤ 63 := by
  unfold more
  split <;> omega
theorem l1More_c (A : Option Addr) (n c : Nat) (xs : List Int) (i : Nat) (w : World) (hn : xs.length = n) (hx : Row eU 1 w A xs) (hB : Byt xs) (hi : i ≤ 2097152)
    (R : Ending → World → Prop) (h : R (.returned (.int .i64 (more xs i))) w) :
    Calls Try.prog 125 #[.slice A n c, .int .i64 i] w R := by
  have H := Lib.hid h
  clear h
  by_cases hlt : i < n
  · obtain ⟨y, hy⟩ := get_lt (xs := xs) (i := i) (by omega)
    obtain ⟨ad, rfl, a0⟩ := hx.eU hy
    have hb := hB i y hy
    have hbt : bt xs i = y := by simp [bt, hy]
    have HE := Lib.hid (show more xs i = if y < 128 ∨ 191 < y then -1 else y - 128 by
      unfold more
      rw [hbt]
      by_cases h2 : y < 128 ∨ 191 < y
      · rw [if_pos (Or.inr h2), if_pos h2]
      · rw [if_neg (by omega), if_neg h2])
    clear hbt hx hB hy
    (change Calls _ _ _ _ (Fin R); go_enter Try.func125, Try.ntmps125)
    go_wp2
    all_goals (go_ret; exact retI H.out (by rw [HE.out]; first | rw [if_pos (by omega)] | (rw [if_neg (by omega)])))
  · have HE := Lib.hid (show more xs i = -1 by unfold more; rw [if_pos (by omega)])
    clear hx hB
    (change Calls _ _ _ _ (Fin R); go_enter Try.func125, Try.ntmps125)
    go_wp2
    all_goals (go_ret; exact retI H.out (by rw [HE.out]))
theorem ret2i {R : Ending → World → Prop} {w : World} {p : Int × Int} {a' b' : Int} (h : R (.returned (.tuple #[.int .i64 p.1, .int .i64 p.2])) w) (e1 : a' = p.1) (e2 : b' = p.2) : Fin R (.returned (.tuple #[.int .i64 a', .int .i64 b'])) w := by rw [e1, e2]; exact h
set_option maxHeartbeats 2000000 in
theorem l1Decode_c (A : Option Addr) (n c : Nat) (xs : List Int) (i : Nat) (w : World) (hn : xs.length = n) (hx : Row eU 1 w A xs) (hB : Byt xs) (hm : n ≤ 1048576) (hi : i < n)
    (R : Ending → World → Prop) (h : R (.returned (.tuple #[.int .i64 (dec xs i).1, .int .i64 (dec xs i).2])) w) :
    Calls Try.prog 121 #[.slice A n c, .int .i64 i] w R := by
  have H := Lib.hid h
  clear h
  have hi2 : i ≤ 1048576 := by omega
  obtain ⟨b, hb⟩ := get_lt (xs := xs) (i := i) (by omega)
  obtain ⟨ad, rfl, a0⟩ := hx.eU hb
  obtain ⟨hb1, hb2⟩ := hB i b hb
  have hbt : bt xs i = b := by simp [bt, hb]
  obtain ⟨x, hX⟩ : ∃ x, more xs (i + 1) = x := ⟨_, rfl⟩
  obtain ⟨y, hY⟩ : ∃ y, more xs (i + 2) = y := ⟨_, rfl⟩
  have hx12 := more_in (xs := xs) (i + 1)
  have hy12 := more_in (xs := xs) (i + 2)
  have HD := Lib.hid (show dec xs i = if b < 128 then (b, 1) else if 194 ≤ b ∧ b < 224 ∧ 0 ≤ x then ((b - 192) * 64 + x, 2) else if 224 ≤ b ∧ b < 240 ∧ 0 ≤ x ∧ 0 ≤ y ∧ 2048 ≤ c3 b x y ∧ isChr (c3 b x y) then (c3 b x y, 3) else (0, 0) by
    unfold dec
    rw [hbt, hX, hY])
  rw [hX] at hx12
  rw [hY] at hy12
  have HX := Lib.hid hX
  have HY := Lib.hid hY
  have HR := Lib.hid hx
  have HB := Lib.hid hB
  have HN := Lib.hid hn
  have HM := Lib.hid hm
  have HI := Lib.hid hi
  clear hX hY hbt hx hB hb hn hm hi
  rcases q1 : isChr (c3 b x y) with _ | _
  all_goals
    (change Calls _ _ _ _ (Fin R); go_enter Try.func121, Try.ntmps121)
    go_wp2_with (fail)
    · go_ret2
      exact ret2i H.out (by rw [HD.out, if_pos (by omega)]) (by rw [HD.out, if_pos (by omega)])
    rw [show ((i : Int) + 1) = ((i + 1 : Nat) : Int) by omega]
    refine l1More_c _ n c xs (i + 1) _ HN.out HR.out HB.out (by omega) _ ?_
    rw [HX.out]
    go_wp2_with (fail)
    all_goals first
      | (go_ret2; exact ret2i H.out (by rw [HD.out, if_neg (by omega), if_pos (by omega)]) (by rw [HD.out, if_neg (by omega), if_pos (by omega)]))
      | (rw [show ((i : Int) + 2) = ((i + 2 : Nat) : Int) by omega]
         refine l1More_c _ n c xs (i + 2) _ HN.out HR.out HB.out (by omega) _ ?_
         rw [HY.out]
         go_wp2_with (first | (go_at_call 108; (with_reducible refine l1Char_c _ _ q1 _ _ ?_)))
         all_goals (go_ret2; refine ret2i H.out ?_ ?_ <;> (rw [HD.out, if_neg (by omega), if_neg (by omega)]; (try simp only [q1]); (try simp only [c3]); (repeat' split) <;> first | rfl | omega | (exfalso; simp_all; done) | (exfalso; simp_all; omega))))
theorem enc_len (x : Int) : (enc x).length = if x < 128 then 1 else if x < 2048 then 2 else 3 := by unfold enc; split; rfl; split <;> rfl
theorem enc_pos (x : Int) : 0 < (enc x).length := by rw [enc_len]; split; omega; split <;> omega
set_option maxHeartbeats 2000000 in
theorem encoded_c (x : Int) (h0 : 0 ≤ x) (h1 : x ≤ 65535) (w : World)
    (R : Ending → World → Prop) (h : ∀ A c w', Own eU 1 5 w' w.heap.size (.slice A (enc x).length c) (enc x) → (enc x).length ≤ c → c ≤ maxLen → Below w.heap.size w w' → R (.returned (.slice A (enc x).length c)) w') :
    Calls Try.prog 70 #[.int .i64 x] w R := by
  have H := Lib.hid h
  clear h
  have m1 : bits .and .i64 x 63 = x % 64 := and63_i64 x h0 (by omega)
  have m2 : bits .and .i64 (x / 64) 63 = x / 64 % 64 := and63_i64 _ (by omega) (by omega)
  have key : ∀ (n : Nat) (l : List Int), enc x = l → l.length = n → Fin R (.returned (.slice (some ⟨w.heap.size, 0, none⟩) n n)) (w.alloc (.cells (l.map (Value.int .u8)).toArray 5)) := fun n l hl hn => by
    have hx : enc x = l := hl
    have := H.out (some ⟨w.heap.size, 0, none⟩) n (w.alloc (.cells (l.map (Value.int .u8)).toArray 5))
    rw [hx, hn] at this
    refine this (Own.lit w _ l n (Nat.le_refl _) hn ?_ (Enc.map _ l)) (Nat.le_refl _) ?_ (by (repeat' (first | (with_reducible exact Below.refl _ _) | (with_reducible assumption) | (with_reducible refine Below.alloc ?_ ?_ _) | (with_reducible refine bdN ?_ _) | (with_reducible refine Below.drew ?_) | (with_reducible refine Below.setCell ?_ ?_ _) | go_size)))
    · rw [← hn, ← hx, enc_len]; unfold maxLen; split; omega; split <;> omega
    · rw [← hn, ← hx, enc_len]; unfold maxLen; split; omega; split <;> omega
  have K := Lib.hid key
  clear key
  (change Calls _ _ _ _ (Fin R); go_enter Try.func70, Try.ntmps70)
  go_wp2
  all_goals go_ret
  · exact K.out 1 [x] (by unfold enc; rw [if_pos (by omega)]) rfl
  · exact K.out 2 [192 + x / 64, 128 + x % 64] (by unfold enc; rw [if_neg (by omega), if_pos (by omega)]) rfl
  · exact K.out 3 [224 + x / 4096, 128 + x / 64 % 64, 128 + x % 64] (by unfold enc; rw [if_neg (by omega), if_neg (by omega)]) rfl
theorem conv_row (A : Option Addr) (n c : Nat) (xs : List Int) (w : World) (hn : xs.length = n) (hx : Row eU 1 w A xs) (h0 : 0 < n) : (convert 28 9 (.slice A n c)).run Try.prog w = .ok (.string (strOfNums xs)) w := by
  subst hn
  obtain ⟨x, hx0⟩ := get_lt (xs := xs) (i := 0) h0
  obtain ⟨ad, rfl, _⟩ := hx.eU hx0
  have hl : (loadCells ad xs.length).run Try.prog w = .ok (xs.map (Value.int .u8)).toArray w := by
    have := run_loadCells_list (P := Try.prog) w ad (xs.map (Value.int .u8)) (fun j v hj => by
      rw [List.getElem?_map] at hj
      cases hxj : xs[j]? with
      | none => rw [hxj] at hj; cases hj
      | some y =>
        rw [hxj] at hj
        obtain rfl : Value.int .u8 y = v := by simpa using hj
        obtain ⟨ad', e, hc⟩ := hx.eU hxj
        cases e
        exact hc)
    simpa using this
  rw [run_convert_bytes_string w 28 9 5 _ xs.length c Try.underlying28 Try.underlying5 Try.underlying9, run_bytesToString w _ xs.length c xs hl, foldl_push_bytes]
  simp [strOfNums, ByteArray.empty, ByteArray.emptyWithCapacity]
  rfl
theorem strOfNums_inj {xs ys : List Int} (hx : Byt xs) (hy : Byt ys) (h : strOfNums xs = strOfNums ys) : xs = ys := by
  have h1 : (xs.map fun n => UInt8.ofNat n.toNat) = ys.map fun n => UInt8.ofNat n.toNat := by
    have := congrArg (fun b : ByteArray => b.data.toList) h
    simpa [strOfNums_data] using this
  have hl : xs.length = ys.length := by simpa using congrArg List.length h1
  apply List.ext_getElem?
  intro i
  have hi := congrArg (fun l => l[i]?) h1
  simp only [List.getElem?_map] at hi
  cases hxi : xs[i]? with
  | none =>
    have : xs.length ≤ i := by simpa using hxi
    simp [← hl, this]
  | some x =>
    have : i < ys.length := by rw [← hl]; exact (List.getElem?_eq_some_iff.1 hxi).1
    obtain ⟨y, hyi⟩ := get_lt this
    rw [hyi]
    rw [hxi, hyi] at hi
    have e := Option.some.inj hi
    obtain ⟨a1, a2⟩ := hx i x hxi
    obtain ⟨b1, b2⟩ := hy i y hyi
    have := congrArg UInt8.toNat e
    simp only [UInt8.toNat_ofNat'] at this
    congr 1
    omega
theorem strNe_f {xs ys : List Int} (hx : Byt xs) (hy : Byt ys) (h : (!(strOfNums xs).toList == (strOfNums ys).toList) = false) : xs = ys := by
  have e : (strOfNums xs).toList = (strOfNums ys).toList := by simpa using h
  rw [ByteArray.toList_eq, ByteArray.toList_eq] at e
  refine strOfNums_inj hx hy ?_
  cases h1 : strOfNums xs
  cases h2 : strOfNums ys
  rw [h1, h2] at e
  congr 1
  exact Array.ext' e
theorem strNe_t {xs ys : List Int} (h : (!(strOfNums xs).toList == (strOfNums ys).toList) = true) : xs ≠ ys := fun e => by
  subst e
  simp at h
def decR (xs : List Int) (i : Nat) : Int × Int × Int := if (dec xs i).2 = 0 then (5, 0, 0) else (0, (dec xs i).1, (dec xs i).2)
theorem decR_one {xs : List Int} {i : Nat} {b : Int} (hb : bt xs i = b) (h0 : 0 ≤ b) (h1 : b < 192) : decR xs i = if enc b = [b] then (0, b, 1) else (5, 0, 0) := by
  by_cases h : b < 128
  · have hd : dec xs i = (b, 1) := by
      unfold dec
      rw [hb, if_pos h]
    have : enc b = [b] := by unfold enc; rw [if_pos h]
    rw [if_pos this]
    unfold decR
    rw [hd, if_neg (by simp)]
  · have hd : dec xs i = (0, 0) := by
      unfold dec
      rw [hb, if_neg h, if_neg (fun hh => by have := hh.1; omega), if_neg (fun hh => by have := hh.1; omega)]
    have : enc b ≠ [b] := fun e => by
      have := congrArg List.length e
      rw [enc_len, if_neg h] at this
      split at this <;> simp at this
    rw [if_neg this]
    unfold decR
    rw [hd, if_pos rfl]
theorem enc_byt {x : Int} (h0 : 0 ≤ x) (h1 : x ≤ 65535) : Byt (enc x) := fun i y hy => by
  unfold enc at hy
  split at hy
  · rcases i with _ | i
    · obtain rfl : x = y := by simpa using hy
      omega
    · simp at hy
  · split at hy
    · rcases i with _ | _ | i
      · have : 192 + x / 64 = y := by simpa using hy
        omega
      · have : 128 + x % 64 = y := by simpa using hy
        omega
      · simp at hy
    · rcases i with _ | _ | _ | i
      · have : 224 + x / 4096 = y := by simpa using hy
        omega
      · have : 128 + x / 64 % 64 = y := by simpa using hy
        omega
      · have : 128 + x % 64 = y := by simpa using hy
        omega
      · simp at hy
theorem more_of {xs : List Int} {i : Nat} {x : Int} (hx : bt xs i = x) (hi : i < xs.length) : more xs i = if 128 ≤ x ∧ x ≤ 191 then x - 128 else -1 := by
  unfold more
  rw [hx]
  by_cases h : 128 ≤ x ∧ x ≤ 191
  · rw [if_neg (by omega), if_pos h]
  · rw [if_pos (by omega), if_neg h]
theorem more_out {xs : List Int} {i : Nat} (hi : xs.length ≤ i) : more xs i = -1 := by
  unfold more
  rw [if_pos (Or.inl hi)]
theorem more_cases {xs : List Int} {i : Nat} {x : Int} (hx : bt xs i = x) (hi : i < xs.length) : (128 ≤ x ∧ x ≤ 191 ∧ more xs i = x - 128) ∨ (¬ (128 ≤ x ∧ x ≤ 191) ∧ more xs i = -1) := by
  rw [more_of hx hi]
  by_cases h : 128 ≤ x ∧ x ≤ 191
  · exact .inl ⟨h.1, h.2, if_pos h⟩
  · exact .inr ⟨h, if_neg h⟩
theorem decR_two {xs : List Int} {i : Nat} {b x : Int} (hb : bt xs i = b) (hx : bt xs (i + 1) = x) (h1 : 192 ≤ b) (h2 : b < 224) (x0 : 0 ≤ x) (x1 : x ≤ 255) (hi : i + 1 < xs.length) :
    decR xs i = if enc ((b - 192) * 64 + x % 64) = [b, x] then (0, (b - 192) * 64 + x % 64, 2) else (5, 0, 0) := by
  have hm := more_cases hx hi
  by_cases h : 194 ≤ b ∧ 128 ≤ x ∧ x ≤ 191
  · have hm2 : more xs (i + 1) = x - 128 := by rcases hm with h' | h' <;> omega
    have hd : dec xs i = ((b - 192) * 64 + x % 64, 2) := by
      unfold dec
      rw [hb, if_neg (show ¬ b < 128 by omega), if_pos (show 194 ≤ b ∧ b < 224 ∧ 0 ≤ more xs (i + 1) by omega), hm2]
      congr 1
      omega
    have : enc ((b - 192) * 64 + x % 64) = [b, x] := by
      unfold enc
      rw [if_neg (by omega), if_pos (by omega)]
      congr 1
      · omega
      · congr 1; omega
    rw [if_pos this]
    unfold decR
    rw [hd, if_neg (by simp)]
  · have hd : dec xs i = (0, 0) := by
      unfold dec
      rw [hb, if_neg (show ¬ b < 128 by omega), if_neg (show ¬ (194 ≤ b ∧ b < 224 ∧ 0 ≤ more xs (i + 1)) by rcases hm with h' | h' <;> omega), if_neg (fun hh => by have := hh.1; omega)]
    have : enc ((b - 192) * 64 + x % 64) ≠ [b, x] := fun e => by
      unfold enc at e
      split at e
      · simp at e
      · rw [if_pos (by omega)] at e
        simp at e
        omega
    rw [if_neg this]
    unfold decR
    rw [hd, if_pos rfl]
theorem decR_two_short {xs : List Int} {i : Nat} {b : Int} (hb : bt xs i = b) (h1 : 192 ≤ b) (h2 : b < 224) (hi : xs.length ≤ i + 1) : decR xs i = (5, 0, 0) := by
  have hd : dec xs i = (0, 0) := by
    unfold dec
    rw [hb, more_out hi, if_neg (show ¬ b < 128 by omega), if_neg (fun hh => by have := hh.2.2; omega), if_neg (fun hh => by have := hh.1; omega)]
  unfold decR
  rw [hd, if_pos rfl]
theorem decR_three_short {xs : List Int} {i : Nat} {b : Int} (hb : bt xs i = b) (h1 : 224 ≤ b) (hi : xs.length ≤ i + 2) : decR xs i = (5, 0, 0) := by
  have hd : dec xs i = (0, 0) := by
    unfold dec
    rw [hb, more_out hi, if_neg (show ¬ b < 128 by omega), if_neg (fun hh => by have := hh.2.1; omega), if_neg (fun hh => by have := hh.2.2.2.1; omega)]
  unfold decR
  rw [hd, if_pos rfl]
theorem decR_three {xs : List Int} {i : Nat} {b x y : Int} (hb : bt xs i = b) (hx : bt xs (i + 1) = x) (hy : bt xs (i + 2) = y) (h1 : 224 ≤ b) (x0 : 0 ≤ x) (x1 : x ≤ 255) (y0 : 0 ≤ y) (y1 : y ≤ 255) (hi : i + 2 < xs.length) :
    decR xs i = if isChr (((b - 224) * 64 + x % 64) * 64 + y % 64) ∧ enc (((b - 224) * 64 + x % 64) * 64 + y % 64) = [b, x, y] then (0, ((b - 224) * 64 + x % 64) * 64 + y % 64, 3) else (5, 0, 0) := by
  have hm := more_cases hx (by omega)
  have hn := more_cases hy hi
  have e1 : (128 ≤ x ∧ x ≤ 191) → (128 ≤ y ∧ y ≤ 191) → c3 b (x - 128) (y - 128) = ((b - 224) * 64 + x % 64) * 64 + y % 64 := by unfold c3; omega
  by_cases h : (128 ≤ x ∧ x ≤ 191) ∧ (128 ≤ y ∧ y ≤ 191) ∧ b < 240 ∧ 2048 ≤ c3 b (x - 128) (y - 128) ∧ isChr (c3 b (x - 128) (y - 128))
  · obtain ⟨hx', hy', hb', h3, h4⟩ := h
    have hm2 : more xs (i + 1) = x - 128 := by rcases hm with h' | h' <;> omega
    have hn2 : more xs (i + 2) = y - 128 := by rcases hn with h' | h' <;> omega
    have e := e1 hx' hy'
    have hd : dec xs i = (((b - 224) * 64 + x % 64) * 64 + y % 64, 3) := by
      unfold dec
      rw [hb, hm2, hn2, if_neg (show ¬ b < 128 by omega), if_neg (fun hh => by have := hh.2.1; omega), if_pos ⟨h1, hb', by omega, by omega, h3, h4⟩, e]
    rw [e] at h3 h4
    have : enc (((b - 224) * 64 + x % 64) * 64 + y % 64) = [b, x, y] := by
      unfold enc
      rw [if_neg (by omega), if_neg (by omega)]
      congr 1
      · omega
      · congr 1
        · omega
        · congr 1; omega
    rw [if_pos ⟨h4, this⟩]
    unfold decR
    rw [hd, if_neg (by simp)]
  · have hd : dec xs i = (0, 0) := by
      unfold dec
      rw [hb, if_neg (show ¬ b < 128 by omega), if_neg (fun hh => by have := hh.2.1; omega), if_neg]
      intro ⟨_, hb', hh1, hh2, h3, h4⟩
      rcases hm with ⟨a1, a2, a3⟩ | ⟨_, a3⟩
      · rcases hn with ⟨b1, b2, b3⟩ | ⟨_, b3⟩
        · rw [a3, b3] at h3 h4
          exact h ⟨⟨a1, a2⟩, ⟨b1, b2⟩, hb', h3, h4⟩
        · rw [b3] at hh2; omega
      · rw [a3] at hh1; omega
    have hne : ¬ (isChr (((b - 224) * 64 + x % 64) * 64 + y % 64) ∧ enc (((b - 224) * 64 + x % 64) * 64 + y % 64) = [b, x, y]) := fun ⟨q, e⟩ => by
      have hq := q
      unfold isChr inB at q
      simp only [Bool.and_eq_true, decide_eq_true_eq] at q
      unfold enc at e
      split at e
      · simp at e
      · split at e
        · simp at e
        · simp at e
          have a1 : 128 ≤ x ∧ x ≤ 191 := by omega
          have a2 : 128 ≤ y ∧ y ≤ 191 := by omega
          have e2 := e1 a1 a2
          refine h ⟨a1, a2, by omega, ?_, ?_⟩
          · rw [e2]; omega
          · rw [e2]; exact hq
    rw [if_neg hne]
    unfold decR
    rw [hd, if_pos rfl]
end Go.Proofs.Ytcinaflmpdmdaaa
