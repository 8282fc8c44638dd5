/- The walks of the functions on the fields of a card, in both packages: what each returns, and that memory has at most new blocks. The walks of the laws' own functions on items and layouts, and of the comparison of layouts: what each returns, and that memory has at most new blocks. -/
import Derived.Test.YtmpfnkheohlmiaaGreatDoorQE
import Derived.Test.YtmpfnkheohlmiaaGreatDoorQA
import Derived.Deep.RegionHeld3
import Derived.Laws.StructEq
namespace Go.Proofs.YtmpfnkheohlmiaaGreatDoor
open Go.RowKit
set_option maxRecDepth 100000
set_option linter.unusedVariables false
set_option linter.unusedSimpArgs false
set_option linter.unnecessarySimpa false

/-- is it a field of n columns? -/
def fieldB (f t n : Int) : Bool := decide (0 ≤ f) && decide (f < t) && decide (t ≤ n)
theorem fieldB_yes {f t n : Int} (h : fieldB f t n = true) : 0 ≤ f ∧ f < t ∧ t ≤ n := by
  unfold fieldB at h; simp only [Bool.and_eq_true, decide_eq_true_eq] at h; exact ⟨h.1.1, h.1.2, h.2⟩
theorem fieldB_1 {f t n : Int} (h : ¬ 0 ≤ f) : fieldB f t n = false := by unfold fieldB; simp [h]
theorem fieldB_2 {f t n : Int} (h : ¬ f < t) : fieldB f t n = false := by unfold fieldB; simp [h]
theorem fieldB_3 {f t n : Int} (h : ¬ t ≤ n) : fieldB f t n = false := by unfold fieldB; simp [h]
theorem fieldB_ok {f t n : Int} (h : 0 ≤ f) (h2 : f < t) (h3 : t ≤ n) : fieldB f t n = true := by unfold fieldB; simp [h, h2, h3]
/-- the code of a card and a field -/
def fieldI (xs : List Int) (f t : Int) : Int := if validCardL xs then (if fieldB f t xs.length then 0 else 2) else 1
theorem field_bad {xs : List Int} (f t : Int) (h : validCardL xs = false) : fieldI xs f t = 1 := by unfold fieldI; rw [h]; rfl
theorem field_range {xs : List Int} {f t : Int} (h : validCardL xs = true) (h2 : fieldB f t xs.length = false) : fieldI xs f t = 2 := by unfold fieldI; rw [h, h2]; rfl
theorem field_ok {xs : List Int} {f t : Int} (h : validCardL xs = true) (h2 : fieldB f t xs.length = true) : fieldI xs f t = 0 := by unfold fieldI; rw [h, h2]; rfl
theorem field_zero {xs : List Int} {f t : Int} (h : fieldI xs f t = 0) : validCardL xs = true ∧ fieldB f t xs.length = true := by
  cases h1 : validCardL xs
  · rw [field_bad f t h1] at h; cases h
  · cases h2 : fieldB f t xs.length
    · rw [field_range h1 h2] at h; cases h
    · exact ⟨rfl, rfl⟩

theorem impl_isField (f t n : Int) (w : World) : Calls Tryz.prog 111 #[.agg #[.int .i64 f, .int .i64 t], .int .i64 n] w fun e w' => e = .returned (.bool (fieldB f t n)) ∧ Below w.heap.size w w' := by
  have hb1 := Lib.hid (below_alloc (w := w) (.cells #[.int .i64 f, .int .i64 t] 61))
  by_cases h1 : 0 ≤ f
  · by_cases h2 : f < t
    · by_cases h3 : t ≤ n
      · go_enter Tryz.func111, Tryz.ntmps111
        go_wp2_with fail
        go_ret
        exact ⟨ret_bool (by rw [fieldB_ok h1 h2 h3]), hb1.out⟩
      · go_enter Tryz.func111, Tryz.ntmps111
        go_wp2_with fail
        go_ret
        exact ⟨ret_bool (by rw [fieldB_3 (f := f) (t := t) (n := n) (by omega)]), hb1.out⟩
    · go_enter Tryz.func111, Tryz.ntmps111
      go_wp2_with fail
      go_ret
      exact ⟨ret_bool (by rw [fieldB_2 (f := f) (t := t) (n := n) (by omega)]), hb1.out⟩
  · go_enter Tryz.func111, Tryz.ntmps111
    go_wp2_with fail
    go_ret
    exact ⟨ret_bool (by rw [fieldB_1 (f := f) (t := t) (n := n) (by omega)]), hb1.out⟩
theorem spec_l02Field (f t n : Int) (w : World) : Calls Tryz.prog 119 #[.agg #[.int .i64 f, .int .i64 t], .int .i64 n] w fun e w' => e = .returned (.bool (fieldB f t n)) ∧ Below w.heap.size w w' := by
  have hb1 := Lib.hid (below_alloc (w := w) (.cells #[.int .i64 f, .int .i64 t] 61))
  by_cases h1 : 0 ≤ f
  · by_cases h2 : f < t
    · by_cases h3 : t ≤ n
      · go_enter Tryz.func119, Tryz.ntmps119
        go_wp2_with fail
        go_ret
        exact ⟨ret_bool (by rw [fieldB_ok h1 h2 h3]), hb1.out⟩
      · go_enter Tryz.func119, Tryz.ntmps119
        go_wp2_with fail
        go_ret
        exact ⟨ret_bool (by rw [fieldB_3 (f := f) (t := t) (n := n) (by omega)]), hb1.out⟩
    · go_enter Tryz.func119, Tryz.ntmps119
      go_wp2_with fail
      go_ret
      exact ⟨ret_bool (by rw [fieldB_2 (f := f) (t := t) (n := n) (by omega)]), hb1.out⟩
  · go_enter Tryz.func119, Tryz.ntmps119
    go_wp2_with fail
    go_ret
    exact ⟨ret_bool (by rw [fieldB_1 (f := f) (t := t) (n := n) (by omega)]), hb1.out⟩
/-- the columns of a field -/
def partL (xs : List Int) (f t : Int) : List Int := (xs.drop f.toNat).take (t - f).toNat
theorem partL_length {xs : List Int} {f t : Int} (h : fieldB f t xs.length = true) : (partL xs f t).length = (t - f).toNat := by
  obtain ⟨h1, h2, h3⟩ := fieldB_yes h
  unfold partL; simp; omega
theorem ri_sub {w : World} {b o : Nat} {xs : List Int} (h : RI w (some ⟨b, o, none⟩) xs) (f m : Nat) : RI w (some ⟨b, o + f, none⟩) ((xs.drop f).take m) := by
  intro j u hj
  rw [List.map_take, List.map_drop, List.getElem?_take] at hj
  split at hj
  · rw [List.getElem?_drop] at hj
    obtain ⟨b', o', ha, hc⟩ := h _ _ hj
    simp only [Option.some.injEq, Addr.mk.injEq] at ha
    obtain ⟨rfl, rfl, _⟩ := ha
    exact ⟨b, o + f, rfl, by rw [Nat.add_assoc]; exact hc⟩
  · cases hj
set_option maxHeartbeats 400000 in
theorem spec_l02Part_at (b o : Nat) (a : Option Addr) (c : Nat) (xs : List Int) (f t : Int) (w : World) (hp : w.cell? ⟨b, o, none⟩ = some (.slice a xs.length c)) (hx : RI w a xs) (hn : xs.length ≤ maxLen) (hcap : xs.length ≤ c) (hf : fieldB f t xs.length = true) :
    Calls Tryz.prog 97 #[.pointer (some ⟨b, o, none⟩), .agg #[.int .i64 f, .int .i64 t]] w fun e w' => ∃ a' c', e = .returned (.slice a' (partL xs f t).length c') ∧ RI w' a' (partL xs f t) ∧ Below w.heap.size w w' := by
  have hm : xs.length ≤ 9223372036854775807 := by simpa [maxLen] using hn
  have hbl := World.block_lt_of_cell? _ _ hp
  have hb1 := Lib.hid (below_alloc (w := w) (.cells #[.int .i64 f, .int .i64 t] 61))
  have hp1 := keep hb1.out hp
  obtain ⟨h1, h2, h3⟩ := fieldB_yes hf
  obtain ⟨x, hx0⟩ := get_some (l := xs) (k := 0) (by omega)
  obtain ⟨b1, o1, rfl, hc1⟩ := hx.at hx0
  obtain ⟨f, rfl⟩ := Int.eq_ofNat_of_zero_le h1
  obtain ⟨t, rfl⟩ := Int.eq_ofNat_of_zero_le (show 0 ≤ t by omega)
  have h2' : f ≤ t := by omega
  have h3' : t ≤ xs.length := by omega
  have h4' : t ≤ c := by omega
  go_enter Tryz.func97, Tryz.ntmps97
  go_wp2_with fail
  go_quiet (fail)
  go_wp2_with fail
  go_ret
  have hl : (partL xs (f : Int) (t : Int)).length = t - f := by rw [partL_length hf]; omega
  exact ⟨some ⟨b1, o1 + f, Option.none⟩, c - f, by rw [hl]; rfl, ((ri_sub hx f ((t : Int) - f).toNat).kept (below_drewN hb1.out _)), below_drewN hb1.out _⟩
theorem spec_l02Part (b : Nat) (a : Option Addr) (c : Nat) (xs : List Int) (f t : Int) (w : World) (hp : w.cell? ⟨b, 0, none⟩ = some (.slice a xs.length c)) (hx : RI w a xs) (hn : xs.length ≤ maxLen) (hcap : xs.length ≤ c) (hf : fieldB f t xs.length = true) :
    Calls Tryz.prog 97 #[.pointer (some ⟨b, 0, none⟩), .agg #[.int .i64 f, .int .i64 t]] w fun e w' => ∃ a' c', e = .returned (.slice a' (partL xs f t).length c') ∧ RI w' a' (partL xs f t) ∧ Below w.heap.size w w' := spec_l02Part_at b 0 a c xs f t w hp hx hn hcap hf
/-- is the field of a card blank? -/
def blankFieldB (xs : List Int) (f t : Int) : Bool := if fieldI xs f t == 0 then !((partL xs f t).any fun m => m != 0) else false
theorem blankField_no {xs : List Int} {f t : Int} (h : (fieldI xs f t == 0) = false) : blankFieldB xs f t = false := by unfold blankFieldB; rw [h]; rfl
theorem blankField_yes {xs : List Int} {f t : Int} (h : fieldI xs f t = 0) : blankFieldB xs f t = !((partL xs f t).any fun m => m != 0) := by unfold blankFieldB; rw [h]; rfl
theorem partL_small {xs : List Int} (f t : Int) {n : Nat} (h : xs.length ≤ n) : (partL xs f t).length ≤ n := by unfold partL; simp; omega
def partOfL (xs : List Int) (f t : Int) : List Int := if fieldI xs f t == 0 then partL xs f t else []
theorem partOf_no {xs : List Int} {f t : Int} (h : (fieldI xs f t == 0) = false) : partOfL xs f t = [] := by unfold partOfL; rw [h]; rfl
theorem partOf_yes {xs : List Int} {f t : Int} (h : fieldI xs f t = 0) : partOfL xs f t = partL xs f t := by unfold partOfL; rw [h]; rfl
theorem partOfL_len (xs : List Int) (f t : Int) (h : xs.length ≤ 1048576) : (partOfL xs f t).length ≤ 1048576 := by
  unfold partOfL; split
  · exact partL_small f t h
  · simp
theorem OI.cap {lo hi e c : Nat} {w : World} {a : Option Addr} {xs : List Int} (h : OI lo hi w e a c xs) : xs.length ≤ c := by
  obtain ⟨a', c', hv, _, hc, _⟩ := own_slice h.1
  simp only [Value.slice.injEq] at hv
  omega
end Go.Proofs.YtmpfnkheohlmiaaGreatDoor
namespace Go.Proofs.YtmpfnkheohlmiaaGreatDoor
open Go.RowKit
set_option maxRecDepth 100000
set_option linter.unusedVariables false
set_option linter.unusedSimpArgs false
set_option linter.unnecessarySimpa false

theorem Tryz.info_item : (Tryz.prog.info? 63).map (fun i => (i.zero, i.size, i.bytes)) = some (some (.agg #[.string ⟨#[]⟩, .int .i64 0, .int .i64 0, .int .i64 0]), 4, 40) := by kernel_rfl
def sameLayB (u v : Int) (xs ys : List Itm) : Bool := (u == v) && eqB xs ys
theorem sameLay_1 {u v : Int} (xs ys : List Itm) (h : (u == v) = false) : sameLayB u v xs ys = false := by unfold sameLayB; rw [h]; rfl
theorem sameLay_2 {u v : Int} (xs ys : List Itm) (h : (u == v) = true) : sameLayB u v xs ys = eqB xs ys := by unfold sameLayB; rw [h]; rfl
theorem item_neq (x y : Itm) (w : World) : (binOp .neq 63 (.agg #[.string x.name, .int .i64 x.kind, .int .i64 x.fr, .int .i64 x.to]) (.agg #[.string y.name, .int .i64 y.kind, .int .i64 y.fr, .int .i64 y.to])).run Tryz.prog w = .ok (.bool (itNe x y)) w := by
  obtain ⟨s, k, f, t⟩ := x
  obtain ⟨s', k', f', t'⟩ := y
  go_simp
  have hs : s.toList = s'.toList ↔ s = s' := ⟨fun h => ByteArray.ext (Array.toList_inj.1 (by rwa [toList_eq, toList_eq] at h)), fun h => by rw [h]⟩
  unfold itNe
  by_cases h1 : s = s'
  · by_cases h2 : k = k'
    · by_cases h3 : f = f'
      · by_cases h4 : t = t'
        · simp [h1, h2, h3, h4]
        · simp [h1, h2, h3, h4]
      · simp [h1, h2, h3]
    · simp [h1, h2]
  · simp [hs, h1]
set_option maxHeartbeats 1000000 in
theorem slices_Equal_items (a b : Option Addr) (ca cb : Nat) (xs ys : List Itm) (w : World) (hx : RT w a xs) (hy : RT w b ys) (h1 : itemsSz xs ≤ 1048576) (h2 : itemsSz ys ≤ 1048576) :
    Calls Tryz.prog 61 #[.slice a xs.length ca, .slice b ys.length cb] w fun e w' => e = .returned (.bool (eqB xs ys)) ∧ Below w.heap.size w w' := by
  have hd1 := itemsSz_len xs
  have hd2 := itemsSz_len ys
  by_cases hl : xs.length = ys.length
  · generalize hn : xs.length = n at *
    have hl' := Lib.hid hl
    have hn' := Lib.hid hn
    clear hl hn
    rw [← hl'.out] at hd2 ⊢
    go_enter Tryz.func61, Tryz.ntmps61
    go_wp2_with fail
    go_loopw [13] (fun i wr => ∃ k : Nat, k ≤ n ∧ i = .int .i64 k ∧ Hid (xs.take k = ys.take k) ∧ Below w.heap.size w wr) (fun i _ => n - (intOf i).toNat)
    case atStart => exact ⟨0, by omega, rfl, Lib.hid rfl, Below.refl _ _⟩
    case round =>
      obtain ⟨k, hk, rfl, hall, hb⟩ := hrel
      by_cases hlt : k < n
      · obtain ⟨x, hxk⟩ := get_some (l := xs) (k := k) (by rw [hn'.out]; exact hlt)
        obtain ⟨y, hyk⟩ := get_some (l := ys) (k := k) (by rw [← hl'.out]; exact hlt)
        obtain ⟨b1, o1, rfl, hc0, hc1, hc2, hc3⟩ := (hx.kept hb).at hxk
        obtain ⟨b2, o2, rfl, hd0, hd1, hd2, hd3⟩ := (hy.kept hb).at hyk
        have hxk' := Lib.hid hxk
        have hyk' := Lib.hid hyk
        have hneq := fun w => item_neq x y w
        clear hxk hyk
        cases hxy : itNe x y
        · rw [hxy] at hneq
          go_wp2_with fail
          first | go_quiet (fail) | fail
          go_wp2_with fail
          go_roundw
          case rel => exact ⟨k + 1, by omega, by go_num, Lib.hid (take_eq_succ hxk'.out hyk'.out hall.out (itNe_no hxy)), below_drewN hb _⟩
          case measure => simp [intOf]; omega
        · rw [hxy] at hneq
          go_wp2_with fail
          first | go_quiet (fail) | fail
          go_wp2_with fail
          go_ret
          exact ⟨ret_bool (eqB_no (ne_of_at hxk'.out hyk'.out (itNe_yes hxy))).symm, below_drewN hb _⟩
      · go_wp2_with fail
        go_ret
        exact ⟨ret_bool (eqB_yes (xs := xs) (ys := ys) (eq_of_take (by rw [hn'.out]; omega) (by rw [← hl'.out]; omega) hall.out)).symm, hb⟩
  · have hne := Lib.hid (eqB_no (xs := xs) (ys := ys) (fun e => hl (by rw [e])))
    have hd : ((xs.length : Int) != (ys.length : Int)) = true := by simp; omega
    go_enter Tryz.func61, Tryz.ntmps61
    go_wp2_with fail
    go_ret
    exact ⟨ret_bool (by rw [hne.out]), Below.refl _ _⟩
set_option maxHeartbeats 400000 in
theorem impl_SameLayout (u : Int) (a : Option Addr) (c : Nat) (x : List Itm) (v : Int) (b : Option Addr) (d : Nat) (y : List Itm) (w : World) (hx : RT w a x) (hy : RT w b y) (h1 : itemsSz x ≤ 1048576) (h2 : itemsSz y ≤ 1048576) :
    Calls Tryz.prog 24 #[.agg #[.int .i64 u, .slice a x.length c], .agg #[.int .i64 v, .slice b y.length d]] w fun e w' => e = .returned (.bool (sameLayB u v x y)) ∧ Below w.heap.size w w' := by
  have hb2 := Lib.hid (below_alloc2 w (.cells #[.int .i64 u, .slice a x.length c] 26) (.cells #[.int .i64 v, .slice b y.length d] 26))
  cases h : (u == v)
  · have hf := Lib.hid (sameLay_1 x y h)
    go_enter Tryz.func24, Tryz.ntmps24
    go_wp2_with fail
    go_ret
    exact ⟨ret_bool (by rw [hf.out]), hb2.out⟩
  · have hf := Lib.hid (sameLay_2 x y h)
    go_enter Tryz.func24, Tryz.ntmps24
    go_wp2_with (go_at_call 61; ((with_reducible refine (slices_Equal_items _ _ _ _ _ _ _ (hx.kept hb2.out) (hy.kept hb2.out) h1 h2).mono ?_); rintro e w' ⟨rfl, hb⟩))
    go_ret
    exact ⟨ret_bool (by rw [hf.out]), bthen hb2.out hb⟩
set_option maxHeartbeats 1000000 in
theorem spec_SameLayout (u : Int) (a : Option Addr) (c : Nat) (x : List Itm) (v : Int) (b : Option Addr) (d : Nat) (y : List Itm) (w : World) (hx : RT w a x) (hy : RT w b y) (h1 : itemsSz x ≤ 1048576) (h2 : itemsSz y ≤ 1048576) :
    Calls Tryz.prog 23 #[.agg #[.int .i64 u, .slice a x.length c], .agg #[.int .i64 v, .slice b y.length d]] w fun e w' => e = .returned (.bool (sameLayB u v x y)) ∧ Below w.heap.size w w' := by
  have hb2 := Lib.hid (below_alloc2 w (.cells #[.int .i64 u, .slice a x.length c] 26) (.cells #[.int .i64 v, .slice b y.length d] 26))
  cases h : (u == v)
  · have hf := Lib.hid (sameLay_1 x y h)
    have h' : (u != v) = true := by rw [bne, h]; rfl
    go_enter Tryz.func23, Tryz.ntmps23
    go_wp2_with fail
    go_ret
    exact ⟨ret_bool (by rw [hf.out]), hb2.out⟩
  · have hf := Lib.hid (sameLay_2 x y h)
    have h' : (u != v) = false := by rw [bne, h]; rfl
    have hd1 := itemsSz_len x
    have hd2 := itemsSz_len y
    by_cases hl : x.length = y.length
    · have hca : ((w.alloc (.cells #[.int .i64 u, .slice a x.length c] 26)).alloc (.cells #[.int .i64 v, .slice b y.length d] 26)).cell? ⟨w.heap.size, 1, none⟩ = some (.slice a x.length c) := by simp [go_sem]
      have hcb : ((w.alloc (.cells #[.int .i64 u, .slice a x.length c] 26)).alloc (.cells #[.int .i64 v, .slice b y.length d] 26)).cell? ⟨w.heap.size + 1, 1, none⟩ = some (.slice b y.length d) := by simp [go_sem]
      have hx2 := hx.kept hb2.out
      have hy2 := hy.kept hb2.out
      generalize hn : x.length = n at *
      have hl' := Lib.hid hl
      have hn' := Lib.hid hn
      clear hl hn
      rw [← hl'.out] at hd2 hca hcb hb2 hx2 hy2 ⊢
      go_enter Tryz.func23, Tryz.ntmps23
      go_wp2_with fail
      generalize hW : ((w.alloc (.cells #[.int .i64 u, .slice a n c] 26)).alloc (.cells #[.int .i64 v, .slice b n d] 26)) = W0 at *
      clear hW
      go_loopw [5] (fun i wr => ∃ k : Nat, k ≤ n ∧ i = .int .i64 k ∧ Hid (x.take k = y.take k) ∧ Below W0.heap.size W0 wr) (fun i _ => n - (intOf i).toNat)
      case atStart => exact ⟨0, by omega, rfl, Lib.hid rfl, Below.refl _ _⟩
      case round =>
        obtain ⟨k, hk, rfl, hall, hb⟩ := hrel
        have hcar := keep hb hca
        have hcbr := keep hb hcb
        by_cases hlt : k < n
        · obtain ⟨p, hxk⟩ := get_some (l := x) (k := k) (by rw [hn'.out]; exact hlt)
          obtain ⟨q, hyk⟩ := get_some (l := y) (k := k) (by rw [← hl'.out]; exact hlt)
          obtain ⟨b1, o1, rfl, hc0, hc1, hc2, hc3⟩ := (hx2.kept hb).at hxk
          obtain ⟨b2, o2, rfl, hd0, hd1, hd2, hd3⟩ := (hy2.kept hb).at hyk
          have hxk' := Lib.hid hxk
          have hyk' := Lib.hid hyk
          have hneq := fun w => item_neq p q w
          clear hxk hyk
          cases hxy : itNe p q
          · rw [hxy] at hneq
            go_wp2_with fail
            first | go_quiet (fail) | fail
            go_wp2_with fail
            go_roundw
            case rel => exact ⟨k + 1, by omega, by go_num, Lib.hid (take_eq_succ hxk'.out hyk'.out hall.out (itNe_no hxy)), below_drewN hb _⟩
            case measure => simp [intOf]; omega
          · rw [hxy] at hneq
            go_wp2_with fail
            first | go_quiet (fail) | fail
            go_wp2_with fail
            go_ret
            exact ⟨ret_bool (by rw [hf.out]; exact (eqB_no (ne_of_at hxk'.out hyk'.out (itNe_yes hxy))).symm), below_drewN (bthen hb2.out hb) _⟩
        · go_wp2_with fail
          go_ret
          exact ⟨ret_bool (by rw [hf.out]; exact (eqB_yes (xs := x) (ys := y) (eq_of_take (by rw [hn'.out]; omega) (by rw [← hl'.out]; omega) hall.out)).symm), bthen hb2.out hb⟩
    · have hne := Lib.hid (eqB_no (xs := x) (ys := y) (fun e => hl (by rw [e])))
      have hd : ((x.length : Int) != (y.length : Int)) = true := by simp; omega
      go_enter Tryz.func23, Tryz.ntmps23
      go_wp2_with fail
      go_ret
      exact ⟨ret_bool (by rw [hf.out, hne.out]), hb2.out⟩
end Go.Proofs.YtmpfnkheohlmiaaGreatDoor
