import Derived.Test.YtcinaflmpdmdaaaChecked
import Derived.Test.YtcinaflmpdmdaaaMem
import Derived.ProofKit
import Derived.OpenShut
import Derived.Deep.Slices
import Derived.WideKeyArgs
namespace Go.Proofs.Ytcinaflmpdmdaaa
open Go.ChangeShapes Go.WideShapes Go.ChangeAt Go.RowKit
/-! ### the row's end: a law's call leaves what was there as it was -/
section
variable {H : Type} {enc : TypeId × Value → H} {P : Program}
theorem trodAll_stays (hl : laidOutB P = true) {W W' : World} {base : Nat} {sp' : Nat → Bool} : ∀ {ts : List TypeId} {vs : List Value} {ds : List (DataW H)} {ps : List MemPlace}, (ts.all fun t => P.readableRec t && decide (t < P.types.size)) = true →
    DataW.TrodAll enc P W base (fun _ => true) true ts vs ds ps → (∀ p ∈ ps, W.sameAt W' p) → (∀ p ∈ ps, sp' p.block = true) → DataW.TrodAll enc P W' base sp' true ts vs ds ps
  | [], vs, ds, ps, _, h, _, _ => by
    obtain ⟨rfl, rfl, rfl⟩ := trodAll_nil h
    exact trodAll_mk0
  | t :: ts, vs, ds, ps, hr, h, hsame, hs => by
    obtain ⟨v, vs', d, ds', p, q, rfl, rfl, rfl, h0, h1⟩ := trodAll_cons h
    simp only [List.all_cons, Bool.and_eq_true, decide_eq_true_eq] at hr
    exact trodAll_cons_mk (WideElems.Trod_stays hl hr.1.1 hr.1.2 h0 (fun x hx => hsame x (List.mem_append_left _ hx)) (fun x hx => hs x (List.mem_append_left _ hx)))
      (trodAll_stays hl hr.2 h1 (fun x hx => hsame x (List.mem_append_right _ hx)) (fun x hx => hs x (List.mem_append_right _ hx)))
theorem post_of_below {f : Func} {s : ChangeSpec} {apart fresh handsOn again : Bool} {W W' : World} {args : Array Value} {v : Value} {ds gs : List (DataW H)} {before pa pv : List MemPlace}
    (hW : DataW.Whole enc P f.params.toList s.vars apart W args.toList ds gs before)
    (hres : ∀ (b : Nat) (sp : Nat → Bool) (hd : Bool), DataW.TrodAll enc P W' b sp hd f.resultTypes.toList (v.resultList f.resultTypes.size) (s.fn H (ds ++ gs)).results [])
    (hargs : ∀ sp : Nat → Bool, (∀ p ∈ before, sp p.block = true) → DataW.TrodAll enc P W' 0 sp true f.params.toList args.toList (s.fn H (ds ++ gs)).args pa)
    (hvars : ∀ sp : Nat → Bool, (∀ p ∈ before, sp p.block = true) → DataW.TrodVars enc P W' sp s.vars (s.fn H (ds ++ gs)).vars pv)
    (hps : before = pa ++ pv) (hb : Below W.heap.size W W')
    (hok : ∀ (j : Nat) (t : TypeId) (r : Value), f.resultTypes[j]? = some t → (v.resultList f.resultTypes.size)[j]? = some r → Value.okWide P W' .any 0 t r) :
    s.post enc P f apart fresh handsOn again W args v W' := by
  have hlt : ∀ p ∈ before, p.block < W.heap.size := fun p hp => hW.lt p hp
  have hold : ∀ p ∈ before, (fun b => decide (b < W.heap.size)) p.block = true := fun p hp => by simpa using hlt p hp
  refine ⟨ds, gs, before, [], pa, pv, hW, hres _ _ _, hargs _ hold, hvars _ hold, World.keptBut_mono (fun p hp => ⟨hp, ?_⟩) (hb.frame (· ∈ before)), fun _ => ?_⟩
  · rw [hps, List.mem_append] at hp
    exact Or.inr hp
  · obtain ⟨_, _, _, _, _, hz, hn⟩ := hW
    refine ⟨hok, _, _, ([] ++ pa) ++ pv, ⟨[] ++ pa, pv, trodAll_append (hargs _ (fun _ _ => rfl)) (hres _ _ _), hvars _ (fun _ _ => rfl), rfl, ?_, ?_⟩, ?_⟩
    · intro b off hp
      have hin : MemPlace.cell b off ∈ before := by rw [hps]; simpa using hp
      rw [hb.frozen (hlt _ hin)]
      exact hz b off hin
    · intro ha
      have := hn ha
      rw [hps] at this
      simpa using this
    · intro p hp _
      rw [hps]
      simpa using hp
/-- A law's post: true, and each argument reads as it did. -/
theorem law_post {f : Func} {s : ChangeSpec} {tb : TypeId} {apart fresh handsOn again : Bool} (hl : laidOutB P = true) (htb : P.underlying tb = some .bool) (hft : f.resultTypes = #[tb]) (hvars : s.vars = [])
    (hr : (f.params.toList.all fun t => P.readableRec t && decide (t < P.types.size)) = true)
    {W W' : World} {args : Array Value} {ds gs : List (DataW H)} {before : List MemPlace} (hW : DataW.Whole enc P f.params.toList s.vars apart W args.toList ds gs before) (hb : Below W.heap.size W W')
    (hs : (s.fn H (ds ++ gs)).results = [.lit (.bool true)] ∧ (s.fn H (ds ++ gs)).args = ds ∧ (s.fn H (ds ++ gs)).vars = []) :
    s.post enc P f apart fresh handsOn again W args (.bool true) W' := by
  have hlt : ∀ p ∈ before, p.block < W.heap.size := fun p hp => hW.lt p hp
  have hW' := hW
  obtain ⟨p, q, hA0, hV, rfl, hfz, hnd⟩ := hW
  rw [hvars] at hV
  obtain ⟨rfl, rfl⟩ := trodVars_none hV
  refine post_of_below (pa := p) (pv := []) hW' (fun b sp hd => ?_) (fun sp hsp => ?_) (fun sp hsp => ?_) rfl hb ?_
  · rw [hs.1, hft]
    exact trodAll_cons_mk (p := []) (p' := []) (shut_bool htb _) trodAll_mk0
  · rw [hs.2.1]
    exact trodAll_stays hl hr hA0 (fun x hx => hb.same (hlt x (by simpa using hx))) (fun x hx => hsp x (by simpa using hx))
  · rw [hs.2.2, hvars]
    exact rfl
  · exact ok_one hft rfl (okWide_bool_mk htb _)
end
/-! ### arguments opened -/
theorem choose_list {α : Type} : ∀ {n : Nat} {Pr : Nat → α → Prop}, (∀ i, i < n → ∃ x, Pr i x) → ∃ xs : List α, xs.length = n ∧ ∀ i x, xs[i]? = some x → Pr i x
  | 0, Pr, _ => ⟨[], rfl, fun i x h => by simp at h⟩
  | n + 1, Pr, h => by
    obtain ⟨x, hx⟩ := h 0 (by omega)
    obtain ⟨xs, hl, hxs⟩ := choose_list (n := n) (Pr := fun i => Pr (i + 1)) (fun i hi => h (i + 1) (by omega))
    refine ⟨x :: xs, by simp [hl], fun i y hy => ?_⟩
    cases i with
    | zero => obtain rfl : x = y := by simpa using hy
              exact hx
    | succ i => exact hxs i y (by simpa using hy)
section
variable {H : Type} {enc : TypeId × Value → H} {P : Program} {w : World} {base : Nat} {spare : Nat → Bool} {held : Bool}
theorem open_row {α : Type} {encE : α → List Value} {G : α → Prop} {k : Nat} {t e : TypeId} (ht : P.underlying t = some (.slice e)) (hC : P.cellsOf e = k)
    (hel : ∀ {fuel : Nat} {cs : List Value} {x : DataW H × List MemPlace}, DataW.trod enc P w base spare held fuel e cs = some x → ∃ y, cs = encE y ∧ G y)
    {fuel : Nat} {cs : List Value} {x : DataW H × List MemPlace} (h : DataW.trod enc P w base spare held fuel t cs = some x) :
    ∃ (A : Option Addr) (xs : List α) (c : Nat), cs = [.slice A xs.length c] ∧ xs.length ≤ c ∧ c ≤ maxLen ∧ Row encE k w A xs ∧ ∀ (i : Nat) (y : α), xs[i]? = some y → G y := by
  subst hC
  rcases Go.Deep.open_slice ht h with ⟨rfl, _⟩ | ⟨a, len, cap, m, n, D, Pl, rfl, hb, hl, hm, hmm, hx, hi⟩
  · exact ⟨none, [], 0, rfl, by simp, by unfold maxLen; omega, Row.nil _ _ _ _, fun i y hy => by simp at hy⟩
  · have hlm : len ≤ m := by rw [hmm]; split <;> omega
    obtain ⟨xs, hxl, hxs⟩ := choose_list (n := len) (Pr := fun i y => At w (a.add (i * P.cellsOf e)) (encE y) ∧ G y) (fun i hil => by
      obtain ⟨cs', hc, ht'⟩ := hi i (by omega)
      obtain ⟨y, rfl, hG⟩ := hel ht'
      obtain ⟨_, hcl, hat⟩ := World.cells?_some hc
      refine ⟨y, At.of_add fun j v hv => ?_, hG⟩
      rw [hat j (by rw [← hcl]; exact (List.getElem?_eq_some_iff.1 hv).1), hv])
    subst hxl
    exact ⟨some a, xs, cap, rfl, hl, hm, fun i y hy => ⟨a, rfl, (hxs i y hy).1⟩, fun i y hy => (hxs i y hy).2⟩
/-- A value's own reading, from its cells. -/
theorem open_row_v {α : Type} {encE : α → List Value} {G : α → Prop} {k : Nat} {t e : TypeId} (ht : P.underlying t = some (.slice e)) (hC : P.cellsOf e = k) {r : Reach} {b0 : Nat} {v : Value} {d : DataW H} {p : List MemPlace}
    (hel : ∀ {fuel : Nat} {cs : List Value} {x : DataW H × List MemPlace}, DataW.trod enc P w base spare held fuel e cs = some x → ∃ y, cs = encE y ∧ G y)
    (hv : Value.okWide P w r b0 t v) (h : DataW.Trod enc P w base spare held t v d p) :
    ∃ (A : Option Addr) (xs : List α) (c : Nat), v = .slice A xs.length c ∧ xs.length ≤ c ∧ c ≤ maxLen ∧ Row encE k w A xs ∧ ∀ (i : Nat) (y : α), xs[i]? = some y → G y := by
  obtain ⟨a, len, cap, rfl⟩ := okWide_slice ht hv
  obtain ⟨fuel, hf⟩ := h
  obtain ⟨A, xs, c, hcs, h1⟩ := open_row ht hC hel hf
  obtain hcs : [Value.slice a len cap] = [.slice A xs.length c] := hcs
  exact ⟨A, xs, c, (List.cons.inj hcs).1, h1⟩
/-- A struct's field of one cell. -/
theorem field_of {t : TypeId} {fs : Array Field} {fuel : Nat} {cs : List Value} {x : DataW H × List MemPlace} (ht : P.underlying t = some (.struct fs)) (h : DataW.trod enc P w base spare held fuel t cs = some x) :
    cs.length = P.cellsOf t ∧ ∀ (i : Nat) (f : Field), fs[i]? = some f → ∃ n y, DataW.trod enc P w base spare held n f.type ((cs.drop f.offset).take (P.cellsOf f.type)) = some y := by
  obtain ⟨xs, n, _, _, hlen, hsz, hf⟩ := DataW.trod_struct ht h
  refine ⟨hlen, fun i f hi => ?_⟩
  have hil : i < xs.length := by rw [hsz]; exact (Array.getElem?_eq_some_iff.1 hi).1
  exact ⟨n, _, (hf i f hi).trans (List.getElem?_eq_getElem hil)⟩
theorem open_struct_v {t : TypeId} {fs : Array Field} (ht : P.underlying t = some (.struct fs)) {r : Reach} {b0 : Nat} {v : Value} {d : DataW H} {p : List MemPlace} (hv : Value.okWide P w r b0 t v) (h : DataW.Trod enc P w base spare held t v d p) :
    ∃ (cs : List Value) (fuel : Nat) (x : DataW H × List MemPlace), v = .agg cs.toArray ∧ DataW.trod enc P w base spare held fuel t cs = some x := by
  obtain ⟨⟨cs⟩, rfl, _⟩ := okWide_struct ht hv
  obtain ⟨fuel, hf⟩ := h
  exact ⟨cs, fuel, _, rfl, hf⟩
theorem field_one {t : TypeId} {fs : Array Field} {fuel : Nat} {cs : List Value} {x : DataW H × List MemPlace} (ht : P.underlying t = some (.struct fs)) (h : DataW.trod enc P w base spare held fuel t cs = some x)
    (i : Nat) (f : Field) (hi : fs[i]? = some f) (ft : TypeId) (off : Nat) (e1 : f.type = ft) (e2 : f.offset = off) (hC : P.cellsOf ft = 1) (hoff : off < P.cellsOf t) :
    ∃ v n y, cs[off]? = some v ∧ DataW.trod enc P w base spare held n ft [v] = some y := by
  obtain ⟨hl, hf⟩ := field_of ht h
  obtain ⟨n, y, hy⟩ := hf i f hi
  rw [e1, e2, hC, List.drop_eq_getElem_cons (by omega)] at hy
  exact ⟨_, n, y, List.getElem?_eq_getElem (by omega), hy⟩
end
theorem own_knob : ownKnob Try.prog.godebug = none := by kernel_rfl
theorem laid_out : laidOutB Try.prog = true := by kernel_rfl
theorem cells_int64 : Try.prog.cellsOf 2 = 1 := by kernel_rfl
theorem cells_bool : Try.prog.cellsOf 4 = 1 := by kernel_rfl
theorem cells_string : Try.prog.cellsOf 9 = 1 := by kernel_rfl
theorem cells_uint8 : Try.prog.cellsOf 5 = 1 := by kernel_rfl
section
variable {H : Type} {enc : TypeId × Value → H} {w : World} {base : Nat} {spare : Nat → Bool} {held : Bool}
theorem el_int64 {fuel : Nat} {cs : List Value} {x : DataW H × List MemPlace} (h : DataW.trod enc Try.prog w base spare held fuel 2 cs = some x) : ∃ y : Int, cs = [.int .i64 y] ∧ True := by
  obtain ⟨a, ea, _, wa⟩ := DataW.trod_int Try.underlying2 h
  exact ⟨a, ea, trivial⟩
theorem el_bool {fuel : Nat} {cs : List Value} {x : DataW H × List MemPlace} (h : DataW.trod enc Try.prog w base spare held fuel 4 cs = some x) : ∃ y : Bool, cs = [.bool y] ∧ True := by
  obtain ⟨a, ea, _⟩ := DataW.trod_bool Try.underlying4 h
  exact ⟨a, ea, trivial⟩
theorem el_uint8 {fuel : Nat} {cs : List Value} {x : DataW H × List MemPlace} (h : DataW.trod enc Try.prog w base spare held fuel 5 cs = some x) : ∃ y : Int, cs = [.int .u8 y] ∧ 0 ≤ y ∧ y ≤ 255 := by
  obtain ⟨a, ea, _, wa⟩ := DataW.trod_int Try.underlying5 h
  exact ⟨a, ea, bounds_u8 wa⟩
theorem el_int64b {fuel : Nat} {cs : List Value} {x : DataW H × List MemPlace} (h : DataW.trod enc Try.prog w base spare held fuel 2 cs = some x) : ∃ y : Int, cs = [.int .i64 y] ∧ -9223372036854775808 ≤ y ∧ y ≤ 9223372036854775807 := by
  obtain ⟨a, ea, _, wa⟩ := DataW.trod_int Try.underlying2 h
  exact ⟨a, ea, bounds_i64 wa⟩
end
end Go.Proofs.Ytcinaflmpdmdaaa
