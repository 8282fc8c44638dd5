/- The walks of the functions that cut texts at a byte and take their words. What the reference's reader of layouts knows behind k lines: plain. No program in sight. How long a layout is that was read from a text: plain. -/
import Derived.Test.YtmpfnkheohlmiaaGreatDoorQR
import Derived.Test.YtmpfnkheohlmiaaGreatDoorQC
import Derived.Test.YtmpfnkheohlmiaaGreatDoorQD
import Derived.Test.YtmpfnkheohlmiaaGreatDoorShelf
import Derived.Laws.AppendOwn
import Derived.Maps.AppendAt
import Derived.Test.YtmpfnkheohlmiaaGreatDoorQF
namespace Go.Proofs.YtmpfnkheohlmiaaGreatDoor
open Go.RowKit
set_option maxRecDepth 100000
set_option linter.unusedVariables false
set_option linter.unusedSimpArgs false
set_option linter.unnecessarySimpa false

set_option maxHeartbeats 4000000 in
theorem spec_l01Split (s : ByteArray) (u : UInt8) (w : World) (hs : s.size ≤ 1048576) :
    Calls Tryz.prog 52 #[.string s, .int .u8 u.toNat] w fun e w' => ∃ a' c', e = .returned (.slice a' (cutB u s).length c') ∧ w'.ownsRow w.heap.size 9 1 (.slice a' (cutB u s).length c') (cutB u s).length ((cutB u s).map Value.string) ∧ Below w.heap.size w w' := by
  obtain ⟨i0, hi, hz0, hz1, hz2⟩ := info_parts Tryz.info_string
  have hba := Lib.hid (below_alloc (w := w) (.cells #[] 9))
  have hown0 := Lib.hid (World.ownsRow_lit (base := w.heap.size) (e := 9) (size := 1) w #[] 0 (Nat.le_refl _) (by simp [maxLen]) rfl)
  go_enter Tryz.func52, Tryz.ntmps52
  go_wp2_with fail
  go_loopw [5, 6, 7] (fun v fr i wr => ∃ (k f m : Nat) (ps : List ByteArray) (a' : Option Addr) (c' : Nat), k ≤ s.size ∧ f ≤ k ∧ m ≤ k ∧ i = .int .i64 k ∧ fr = .int .i64 f ∧ v = .slice a' m c' ∧ Hid (ps.length = m) ∧ Hid (CutAt u s k f ps) ∧ OV w.heap.size wr.heap.size wr 9 1 a' m c' (ps.map Value.string) ∧ Below w.heap.size w wr) (fun _ _ i _ => s.size - (intOf i).toNat)
  case atStart => exact ⟨0, 0, 0, [], _, _, by omega, by omega, by omega, rfl, rfl, rfl, Lib.hid rfl, Lib.hid (CutAt.start u s), OV.of hown0.out, hba.out⟩
  case round =>
    obtain ⟨k, f, m, ps, a3, c3, hk, hf, hmk, rfl, rfl, rfl, hpm, hcut, hown, hB⟩ := hrel
    have hszr := hB.size
    replace hB := Lib.hid hB
    replace hown := Lib.hid hown
    have hm63 := Lib.hid (show m + 1 ≤ maxLen by unfold maxLen; omega)
    have hown0 := Lib.hid hown.out.1
    by_cases hlt : k < s.size
    · have hlt' : (k : Int) < (s.size : Int) := by omega
      have hf' : (f : Int) ≤ (k : Int) := by omega
      by_cases hc : s[k] = u
      · have hcu : ((s[k].toNat : Int) == (u.toNat : Int)) = true := by rw [hc]; simp
        have hcu2 : s[k].toNat = u.toNat := by rw [hc]
        have hnx := Lib.hid (hcut.out.hit hlt hc)
        have hle := Lib.hid (show (ps ++ [s.extract f k]).length = m + 1 by rw [List.length_append, hpm.out]; rfl)
        clear hc
        go_wp2_with (at_builtin; refine wpList_append_own _ rfl _ _ 27 rfl w.heap.size 9 i0 (.string ⟨#[]⟩) 1 16 Tryz.underlying27 hi hz0 hz1 hz2 rfl (by decide) _ m (ps.map Value.string) rfl (hown0.out.alloc _) ⟨_, 0, none⟩ 1 1 [.string (s.extract f k)] rfl rfl (news_one _ _ _) (one_one rfl) hm63.out (by omega) (by simp only [World.size_alloc]; omega) ?_; intro v5 w5 hown5 hg5 _; have hb5 := Lib.hid ((hB.out.alloc hszr _).grown hg5 (by simp only [World.size_alloc]; omega) (fun k hk => (hown0.out.lt k hk).1)); obtain ⟨a5, c5, hv5, _, _⟩ := own_slice hown5; subst hv5; have hown5' := Lib.hid hown5; clear hown5 hg5)
        go_roundw
        case rel => exact ⟨k + 1, k + 1, m + 1, ps ++ [s.extract f k], a5, c5, by omega, by omega, by omega, by go_num, by go_num, rfl, hle, hnx, by rw [List.map_append]; exact OV.of hown5'.out, hb5.out⟩
        case measure => simp [intOf]; omega
      · have hcn : ¬ s[k].toNat = u.toNat := fun e => hc (UInt8.toNat_inj.1 e)
        have hcu : ((s[k].toNat : Int) == (u.toNat : Int)) = false := by simp; omega
        have hnx := Lib.hid (hcut.out.miss hlt hc)
        clear hc
        go_wp2_with fail
        go_roundw
        case rel => exact ⟨k + 1, f, m, ps, a3, c3, by omega, by omega, by omega, by go_num, rfl, rfl, hpm, hnx, hown.out, hB.out⟩
        case measure => simp [intOf]; omega
    · obtain rfl : k = s.size := by omega
      have hdn := Lib.hid (hcut.out.done rfl)
      have hf' : (f : Int) ≤ (s.size : Int) := by omega
      have hle := Lib.hid (show (cutB u s).length = m + 1 by rw [hdn.out, List.length_append, hpm.out]; rfl)
      go_wp2_with (at_builtin; refine wpList_append_own _ rfl _ _ 27 rfl w.heap.size 9 i0 (.string ⟨#[]⟩) 1 16 Tryz.underlying27 hi hz0 hz1 hz2 rfl (by decide) _ m (ps.map Value.string) rfl (hown0.out.alloc _) ⟨_, 0, none⟩ 1 1 [.string (s.extract f s.size)] rfl rfl (news_one _ _ _) (one_one rfl) hm63.out (by omega) (by simp only [World.size_alloc]; omega) ?_; intro v5 w5 hown5 hg5 _; have hb5 := Lib.hid ((hB.out.alloc hszr _).grown hg5 (by simp only [World.size_alloc]; omega) (fun k hk => (hown0.out.lt k hk).1)); obtain ⟨a5, c5, hv5, _, _⟩ := own_slice hown5; subst hv5; have hown5' := Lib.hid hown5; clear hown5 hg5)
      go_ret
      refine ⟨a5, c5, by rw [hle.out]; rfl, ?_, hb5.out⟩
      rw [hle.out, hdn.out, List.map_append]
      exact hown5'.out
theorem maxLen_of {w : World} (h : w.ShapedOpen Tryz.prog) : ∃ m, w.cell? ⟨1, 0, none⟩ = some (.int .i64 m) := Tryz.laysM146.s1_3 w h
theorem cell_kept {w w' : World} {p : Addr} (h : ∃ m, w.cell? p = some (.int .i64 m)) (hb : Below w.heap.size w w') : ∃ m, w'.cell? p = some (.int .i64 m) := by
  obtain ⟨m, h⟩ := h
  exact ⟨m, keep hb h⟩
theorem RS_lt {w : World} {B k : Nat} {L : List ByteArray} {t : ByteArray} (h : RS w (some ⟨B, 0, none⟩) L) (hk : L[k]? = some t) : B < w.heap.size := by
  obtain ⟨b, o, e, hc⟩ := h.at hk
  simp only [Option.some.injEq, Addr.mk.injEq] at e
  obtain ⟨rfl, _⟩ := e
  exact World.block_lt_of_cell? w _ hc
end Go.Proofs.YtmpfnkheohlmiaaGreatDoor
namespace Go.Proofs.YtmpfnkheohlmiaaGreatDoor
open Go.RowKit
set_option linter.unusedVariables false
set_option linter.unusedSimpArgs false
set_option linter.unnecessarySimpa false

def midTo (s : List UInt8) (k : Nat) : List (List UInt8) := ((cutL 10 s).take k).tail
theorem midTo_one (s : List UInt8) : midTo s 1 = [] := by
  unfold midTo
  cases cutL 10 s with
  | nil => rfl
  | cons p r => rfl
theorem midTo_succ {s l : List UInt8} {k : Nat} (hk : 1 ≤ k) (h : (cutL 10 s)[k]? = some l) : midTo s (k + 1) = midTo s k ++ [l] := by
  unfold midTo
  rw [List.take_add_one, h]
  cases hq : cutL 10 s with
  | nil => rw [hq] at h; simp at h
  | cons p r =>
    obtain ⟨j, rfl⟩ : ∃ j, k = j + 1 := ⟨k - 1, by omega⟩
    rfl
theorem midTo_all {s : List UInt8} {k : Nat} (h : k + 1 = (cutL 10 s).length) (hk : 1 ≤ k) : midTo s k = midL s := by
  unfold midTo midL
  cases hq : cutL 10 s with
  | nil => rw [hq] at h; simp at h
  | cons p r =>
    rw [hq] at h
    obtain ⟨j, rfl⟩ : ∃ j, k = j + 1 := ⟨k - 1, by omega⟩
    simp only [List.take_succ_cons, List.tail_cons, List.dropLast_eq_take]
    congr 1
    simp at h; omega
theorem line_size {l : List UInt8} (h : lineOk l = true) : 1 + (lineX l).name.size ≤ l.length := by
  obtain ⟨n, k, a, b, e, _, _, _, hx⟩ := line_shape h
  have := three_name e
  rw [hx]
  simp only [ba_size]; omega
theorem lines_size : ∀ (L : List (List UInt8)), L.all lineOk = true → itemsSz (L.map lineX) ≤ (L.map List.length).sum
  | [], _ => by simp [itemsSz]
  | l :: r, h => by
    simp only [List.all_cons, Bool.and_eq_true] at h
    have ih := lines_size r h.2
    have h1 := line_size h.1
    unfold itemsSz at ih ⊢
    simp only [List.map_cons, List.length_cons, List.sum_cons] at ih ⊢
    omega
theorem mid_size (s : List UInt8) : ((midL s).map List.length).sum ≤ s.length := by
  have h1 := sumTo_le s (cutL 10 s).length
  unfold sumTo at h1
  rw [List.take_length] at h1
  have h2 : ∀ (L : List (List UInt8)), (L.tail.dropLast.map List.length).sum ≤ (L.map List.length).sum := by
    intro L
    cases L with
    | nil => simp
    | cons p r =>
      have h3 : (r.dropLast.map List.length).sum ≤ (r.map List.length).sum := by
        rw [List.dropLast_eq_take]
        have : (r.map List.length).sum = ((r.take (r.length - 1)).map List.length).sum + ((r.drop (r.length - 1)).map List.length).sum := by rw [← List.sum_append, ← List.map_append, List.take_append_drop]
        omega
      simp only [List.tail_cons, List.map_cons, List.sum_cons]; omega
  exact Nat.le_trans (h2 _) h1
/-- the reader's state -/
def RsYes (s : List UInt8) (k : Nat) (q : Bool) (xs : List Itm) : Prop := q = true → readL ((headP s).drop 6) = true ∧ (midTo s k).all lineOk = true ∧ xs = (midTo s k).map lineX
def RsNo (s : List UInt8) (q : Bool) : Prop := q = false → layOk s = false
theorem layOk_of {s : List UInt8} (h1 : shapeP s = true) : layOk s = (readL ((headP s).drop 6) && (midL s).all lineOk && validLayB (readI ((headP s).drop 6)) ((midL s).map lineX)) := by
  unfold layOk; rw [h1]; simp
theorem layOk_shape {s : List UInt8} (h1 : shapeP s = false) : layOk s = false := by unfold layOk; rw [h1]; rfl
theorem RsYes.start {s : List UInt8} : RsYes s 1 (readL ((headP s).drop 6)) [] := fun h => ⟨h, by rw [midTo_one]; rfl, by rw [midTo_one]; rfl⟩
theorem RsNo.start {s : List UInt8} : RsNo s (readL ((headP s).drop 6)) := fun h => by unfold layOk; rw [h]; simp
theorem RsYes.next {s l : List UInt8} {k : Nat} {q : Bool} {xs : List Itm} {y : Itm} (h : RsYes s k q xs) (hk : 1 ≤ k) (hl : (cutL 10 s)[k]? = some l) (hy : lineOk l = true → y = lineX l) : RsYes s (k + 1) (q && lineOk l) (xs ++ [y]) := fun hq => by
  simp only [Bool.and_eq_true] at hq
  obtain ⟨h1, h2, h3⟩ := h hq.1
  rw [midTo_succ hk hl]
  refine ⟨h1, by rw [List.all_append, h2]; simp [hq.2], ?_⟩
  rw [List.map_append, ← h3, hy hq.2]; rfl
theorem mid_mem {s l : List UInt8} {k : Nat} (hk : 1 ≤ k) (h2 : k + 1 < (cutL 10 s).length) (hl : (cutL 10 s)[k]? = some l) : l ∈ midL s := by
  have h1 := midTo_succ hk hl
  obtain ⟨m, hm⟩ : ∃ m, m + 1 = (cutL 10 s).length := ⟨(cutL 10 s).length - 1, by omega⟩
  rw [← midTo_all hm (by omega)]
  unfold midTo
  cases hq : cutL 10 s with
  | nil => rw [hq] at hl; simp at hl
  | cons p r =>
    rw [hq] at hl hm h2
    simp only [List.length_cons] at hm h2
    obtain ⟨j, rfl⟩ : ∃ j, k = j + 1 := ⟨k - 1, by omega⟩
    obtain ⟨i, rfl⟩ : ∃ i, m = i + 1 := ⟨m - 1, by omega⟩
    simp only [List.getElem?_cons_succ] at hl
    simp only [List.take_succ_cons, List.tail_cons]
    refine List.mem_of_getElem? (i := j) ?_
    rw [List.getElem?_take, if_pos (by omega)]
    exact hl
theorem RsNo.next {s l : List UInt8} {k : Nat} {q : Bool} (h : RsNo s q) (hk : 1 ≤ k) (h2 : k + 1 < (cutL 10 s).length) (hl : (cutL 10 s)[k]? = some l) : RsNo s (q && lineOk l) := fun hq => by
  cases q
  · exact h rfl
  · have hb : lineOk l = false := by simpa using hq
    unfold layOk
    have : (midL s).all lineOk = false := by
      rw [List.all_eq_false]
      exact ⟨l, mid_mem hk h2 hl, by simp [hb]⟩
    rw [this]; simp
theorem rs_done {s : List UInt8} {k : Nat} {xs : List Itm} (hs : shapeP s = true) (h : RsYes s k true xs) (hk : k + 1 = (cutL 10 s).length) (h1 : 1 ≤ k) : itemsSz xs ≤ s.length ∧ layOk s = validLayB (readI ((headP s).drop 6)) xs ∧ (layOk s = true → layW s = readI ((headP s).drop 6) ∧ layX s = xs) := by
  obtain ⟨a1, a2, a3⟩ := h rfl
  rw [midTo_all hk h1] at a2 a3
  have e : layOk s = validLayB (readI ((headP s).drop 6)) xs := by rw [layOk_of hs, a1, a2, ← a3]; rfl
  refine ⟨?_, e, fun ho => ?_⟩
  · rw [a3]; exact Nat.le_trans (lines_size _ a2) (mid_size s)
  · obtain ⟨b1, b2⟩ := lay_yes ho
    exact ⟨b1, by rw [b2, a3]⟩
/-- the shape of the text, by its first and last line -/
theorem shape_is {s t0 tl : ByteArray} {n : Nat} (hn : (cutB 10 s).length = n + 1) (h0 : (cutB 10 s)[0]? = some t0) (hl : (cutB 10 s)[n]? = some tl) :
    headP s.data.toList = t0.data.toList ∧ shapeP s.data.toList = (decide (1 ≤ n) && decide (n ≤ 13) && decide (tl.size = 0) && decide (7 ≤ t0.size) && decide (t0.data.toList.take 6 = [119, 105, 100, 116, 104, 32])) := by
  have a0 := cutB_at h0
  have al := cutB_at hl
  rw [cutB_length] at hn
  have hh : headP s.data.toList = t0.data.toList := by
    unfold headP
    rw [List.headD_eq_head?_getD, List.head?_eq_getElem?, a0]; rfl
  have hg : (cutL 10 s.data.toList).getLast? = some tl.data.toList := by rw [List.getLast?_eq_getElem?, hn]; exact al
  refine ⟨hh, ?_⟩
  unfold shapeP
  rw [hh, hg, hn, len_bytes]
  have e1 : decide (2 ≤ n + 1) = decide (1 ≤ n) := decide_eq_decide.2 (by omega)
  have e2 : decide (n + 1 ≤ 14) = decide (n ≤ 13) := decide_eq_decide.2 (by omega)
  have e3 : decide (some tl.data.toList = some []) = decide (tl.size = 0) := decide_eq_decide.2 (by
    have := len_bytes tl
    constructor
    · intro h
      have h' : tl.data.toList = [] := by simpa using h
      rw [h'] at this; simp at this; omega
    · intro h
      have h' : tl.data.toList = [] := List.eq_nil_of_length_eq_zero (by omega)
      rw [h'])
  rw [e1, e2, e3]
theorem extract_take (s : ByteArray) (k : Nat) (h : k ≤ s.size) : (s.extract 0 k).data.toList = s.data.toList.take k := by
  rw [ByteArray.data_extract, Array.toList_extract]; simp [List.extract]
theorem extract_drop (s : ByteArray) (k : Nat) : (s.extract k s.size).data.toList = s.data.toList.drop k := by
  rw [ByteArray.data_extract, Array.toList_extract]
  simp only [List.extract]
  rw [List.take_of_length_le (by rw [List.length_drop, len_bytes]; exact Nat.le_refl _)]
end Go.Proofs.YtmpfnkheohlmiaaGreatDoor
namespace Go.Proofs.YtmpfnkheohlmiaaGreatDoor
open Go.RowKit

theorem layX_len (s : ByteArray) (hn : s.size ≤ 1048576) : itemsSz (layX s.data.toList) ≤ 1048576 := by
  cases h : layOk s.data.toList
  · rw [(lay_no h).2]; simp [itemsSz]
  · have h2 := h
    unfold layOk at h2
    simp only [Bool.and_eq_true] at h2
    rw [(lay_yes h).2]
    have h3 := lines_size _ h2.1.2
    have h4 := mid_size s.data.toList
    rw [len_bytes] at h4
    omega
end Go.Proofs.YtmpfnkheohlmiaaGreatDoor
