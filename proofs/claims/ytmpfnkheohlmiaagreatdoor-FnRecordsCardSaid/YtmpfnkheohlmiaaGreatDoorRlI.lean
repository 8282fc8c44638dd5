/- The walk of the program's reader of a layout's text. -/
import Derived.Test.YtmpfnkheohlmiaaGreatDoorQS
import Derived.Test.YtmpfnkheohlmiaaGreatDoorRlR
import Derived.Test.YtmpfnkheohlmiaaGreatDoorQV
import Derived.Test.YtmpfnkheohlmiaaGreatDoorQX
import Derived.Test.YtmpfnkheohlmiaaGreatDoorValid
import Derived.Test.YtmpfnkheohlmiaaGreatDoorQD
namespace Go.Proofs.YtmpfnkheohlmiaaGreatDoor
open Go.RowKit
set_option maxRecDepth 100000
set_option linter.unusedVariables false
set_option linter.unusedSimpArgs false
set_option linter.unnecessarySimpa false

theorem cut_sizes (l : List UInt8) : (Lib.cut l [45]).1.length ≤ l.length ∧ (Lib.cut l [45]).2.1.length ≤ l.length := by
  unfold Lib.cut
  split
  · simp only [List.length_take, List.length_drop]; omega
  · simp
theorem ba_eq_iff {l : List UInt8} {k : ByteArray} : ((⟨l.toArray⟩ : ByteArray) = k) = (k.data.toList = l) := by
  apply propext
  constructor
  · intro h; rw [← h]
  · intro h; rw [← h]
def kindRow : List ByteArray := kindWordsL.map fun l => ⟨l.toArray⟩
theorem kind_idx (k : ByteArray) : Lib.idxOfS (kindRow.take 3) k = kindI k.data.toList := by
  unfold kindRow kindWordsL kindI
  simp only [List.map_cons, List.map_nil, List.take_succ_cons, List.take_nil, List.take_zero, Lib.idxOfS, Lib.idxFromS, ba_eq_iff]
  split
  · rfl
  · split
    · rfl
    · split <;> rfl
theorem last_is {u : UInt8} {t p : ByteArray} {q : Nat} (h : (cutB u t).length = q + 1) (hp : (cutB u t)[q]? = some p) : (cutL u t.data.toList).getLast? = some p.data.toList := by
  rw [cutB_length] at h
  rw [List.getLast?_eq_getElem?, h]
  exact cutB_at hp
theorem line_three {x : Itm} {wd : Int} {t : ByteArray} (hi : itemB x wd = true) (he : t.data.toList = lineC x) : (cutB 32 t).length = 3 := by
  rw [cutB_length, he, (line_words hi).1]; rfl
theorem split_any (s : ByteArray) (u : UInt8) (w : World) (hs : s.size ≤ 1048576) (hM : ∃ m, w.cell? ⟨1, 0, none⟩ = some (.int .i64 m)) :
    Calls Tryz.prog 45 #[.string s, .string ⟨#[u]⟩] w fun e w' => e = .returned (.slice (some ⟨w.heap.size, 0, none⟩) (cutB u s).length (cutB u s).length) ∧ RS w' (some ⟨w.heap.size, 0, none⟩) (cutB u s) ∧ Below w.heap.size w w' := by
  obtain ⟨mx, hmx⟩ := hM
  have h := Tryz.strings_Split s ⟨#[u]⟩ mx w (by omega) hmx (one_size u)
  rw [splitB_cut, ← cutB_len] at h
  refine h.mono ?_
  rintro e w1 ⟨rfl, rfl⟩
  refine ⟨rfl, ?_, below_alloc _⟩
  have h := row_block (heap_alloc_new w (.cells ((cutB u s).map Value.string).toArray 9))
  simpa [RS] using h
theorem cut_any (s : ByteArray) (w : World) (hs : s.size ≤ 1048576) (hM : ∃ m, w.cell? ⟨1, 0, none⟩ = some (.int .i64 m)) :
    Calls Tryz.prog 47 #[.string s, .string ⟨#[45]⟩] w fun e w' => e = .returned (.tuple #[.string ⟨(Lib.cut s.data.toList [45]).1.toArray⟩, .string ⟨(Lib.cut s.data.toList [45]).2.1.toArray⟩, .bool (Lib.cut s.data.toList [45]).2.2]) ∧ Below w.heap.size w w' := by
  obtain ⟨mx, hmx⟩ := hM
  refine (Tryz.strings_Cut s ⟨#[45]⟩ mx w (by omega) hmx).mono ?_
  rintro e w1 ⟨rfl, n, rfl⟩
  exact ⟨rfl, below_drewN (Below.refl _ _) n⟩
theorem idx_any (k : ByteArray) (w : World) (hK : Kinds w) :
    Calls Tryz.prog 48 #[.slice (some ⟨0, 0, none⟩) 3 3, .string k] w fun e w' => e = .returned (.int .i64 (kindI k.data.toList)) ∧ w' = w := by
  have h := Tryz.slices_Index_string 0 0 3 3 kindRow k w (by decide) (by decide) (fun j hj => by
    have hj3 : j < 3 := hj
    rw [Nat.zero_add, hK.at hj3]
    have : j = 0 ∨ j = 1 ∨ j = 2 := by omega
    rcases this with rfl | rfl | rfl <;> rfl)
  rw [kind_idx] at h
  exact h
set_option maxHeartbeats 4000000 in
theorem impl_ReadLayout (s : ByteArray) (w : World) (hs : s.size ≤ 1048576) (ht : Pow10 w) (he : Errs w) (hK : Kinds w) (hM : ∃ m, w.cell? ⟨1, 0, none⟩ = some (.int .i64 m)) :
    Calls Tryz.prog 13 #[.string s] w fun e w' => ∃ a' c', e = .returned (.tuple #[.agg #[.int .i64 (layW s.data.toList), .slice a' (layX s.data.toList).length c'], .bool (layOk s.data.toList)]) ∧ w'.ownsRow w.heap.size 63 4 (.slice a' (layX s.data.toList).length c') (layX s.data.toList).length (itemsV (layX s.data.toList)) ∧ Below w.heap.size w w' := by
  obtain ⟨i0, hi, hz0, hz1, hz2⟩ := info_parts Tryz.info_item
  have hb1 := Lib.hid (below_alloc (w := w) (.cells #[.int .i64 0, .slice none 0 0] 26))
  have hG := Lib.hid (fun (V : World) (hb : Below w.heap.size w V) => And.intro (powT_kept ht hb) (And.intro (he.kept hb) (And.intro (hK.kept hb) (cell_kept hM hb))))
  have hsp := Lib.hid (fun (V : World) (hb : Below w.heap.size w V) => split_any s 10 V hs (hG.out V hb).2.2.2)
  have hcl := cutB_le 10 s
  obtain ⟨n, hn⟩ : ∃ n, (cutB 10 s).length = n + 1 := ⟨(cutB 10 s).length - 1, by have := cutB_pos 10 s; omega⟩
  have hsp' := hsp.out
  rw [hn] at hsp'
  have hsp2 := Lib.hid hsp'
  have hnl : n ≤ 1048576 := by omega
  have hlen := Lib.hid (show (cutL 10 s.data.toList).length = n + 1 by rw [← cutB_length, hn])
  clear hsp hsp' hcl ht he hK hM
  by_cases g2 : n ≤ 13
  · have hn1 : ((n + 1 : Nat) : Int) - 1 = (n : Int) := by omega
    have hn' := Lib.hid hn
    clear hn
    go_enter Tryz.func13, Tryz.ntmps13
    go_wp2_with fail
    refine (hsp2.out _ hb1.out).mono ?_
    rintro e w3 ⟨rfl, hr2, hb⟩
    simp only [World.size_alloc]
    (have hc0 := keep (p := ⟨w.heap.size, 0, none⟩) (v := .int .i64 0) hb (by simp [go_sem, *]); have hf0 := keepf (p := ⟨w.heap.size, 0, none⟩) (v := .int .i64 0) hb (by simp [go_sem, *]) (by simp [go_sem, *]); have hl0 := World.block_lt_of_cell? _ _ hc0; have hc1 := keep (p := ⟨w.heap.size, 1, none⟩) (v := .slice none 0 0) hb (by simp [go_sem, *]); have hf1 := keepf (p := ⟨w.heap.size, 1, none⟩) (v := .slice none 0 0) hb (by simp [go_sem, *]) (by simp [go_sem, *]); have hl1 := World.block_lt_of_cell? _ _ hc1)
    have hB := Lib.hid (bthen hb1.out hb)
    have hrs3 := Lib.hid hr2
    simp only [World.size_alloc] at hrs3
    have hw3 : w.heap.size + 1 ≤ w3.heap.size := by have := hb.size; simpa only [World.size_alloc] using this
    clear hb hr2 hsp2
    go_wp2_with fail
    have hown00 := Lib.hid ((World.ownsRow_lit (base := w3.heap.size) (e := 63) (size := 4) w3 #[] 0 (Nat.le_refl _) (by simp [maxLen]) rfl).alloc (.cells #[.int .i64 0, .slice (some ⟨w3.heap.size, 0, none⟩) 0 0] 26))
    have hbk0 := Lib.hid (show ((w3.alloc (.cells #[] 63)).alloc (.cells #[.int .i64 0, .slice (some ⟨w3.heap.size, 0, none⟩) 0 0] 26)).heap[w3.heap.size + 1]? = some (.cells #[.int .i64 0, .slice (some ⟨w3.heap.size, 0, none⟩) 0 0] 26 (0, 0)) by
      have h := heap_alloc_new (w3.alloc (.cells #[] 63)) (.cells #[.int .i64 0, .slice (some ⟨w3.heap.size, 0, none⟩) 0 0] 26)
      rw [show (w3.alloc (.cells #[] 63)).heap.size = w3.heap.size + 1 by simp] at h
      exact h)
    have hbb := Lib.hid (bthen (below_alloc (w := w3) (.cells #[] 63)) (below_alloc (.cells #[.int .i64 0, .slice (some ⟨w3.heap.size, 0, none⟩) 0 0] 26)))
    go_loopw [30] (fun i wr => ∃ (k m : Nat) (wd : Int) (xs : List Itm) (a' : Option Addr) (c' : Nat), k ≤ n ∧ m ≤ k ∧ i = .int .i64 k ∧ Hid (m = k - 1) ∧ Hid (xs.length = m) ∧ Hid (RlInv s.data.toList k wd xs) ∧ Hid (itemsSz xs ≤ sumTo s.data.toList k) ∧ OV w3.heap.size wr.heap.size wr 63 4 a' m c' (itemsV xs) ∧ wr.heap[w3.heap.size + 1]? = some (.cells #[.int .i64 wd, .slice a' m c'] 26 (0, 0)) ∧ Below w3.heap.size w3 wr) (fun i _ => n - (intOf i).toNat)
    case atStart => exact ⟨0, 0, 0, [], _, _, by omega, by omega, rfl, Lib.hid rfl, Lib.hid rfl, Lib.hid (RlInv.start _), Lib.hid (Nat.zero_le _), OV.of hown00.out, hbk0.out, hbb.out⟩
    case round =>
      obtain ⟨k, m, wd, xs, a3, c3, hkn, hmk0, rfl, hmk, hxm, hy, hsz, hown, hbk, hBr⟩ := hrel
      have hszr := hBr.size
      obtain ⟨q0, q1, q2, q3⟩ := blk_cell hbk
      have hsrc := Lib.hid (hrs3.out.kept hBr)
      replace hBr := Lib.hid hBr
      replace hown := Lib.hid hown
      replace hbk := Lib.hid hbk
      clear hown00 hbk0 hbb hrs3
      have hPl : w3.heap.size + 1 < wr.heap.size := World.block_lt_of_cell? _ _ q0
      have hr0 := keep hBr.out hc0
      have hr1 := keep hBr.out hc1
      have hrf0 := keepf hBr.out hc0 hf0
      have hrf1 := keepf hBr.out hc1 hf1
      have hPw : ¬ w3.heap.size + 1 = w.heap.size := by omega
      have hPw' : ¬ w.heap.size = w3.heap.size + 1 := by omega
      have hBx := Lib.hid (bthen hB.out hBr.out)
      by_cases hlt : k < n
      · have hlt' : (k : Int) < (n : Int) := by omega
        obtain ⟨t, htk⟩ := get_some (l := cutB 10 s) (k := k) (by rw [hn'.out]; omega)
        obtain ⟨b1, o1, hab, hct⟩ := hsrc.out.at htk
        simp only [Option.some.injEq, Addr.mk.injEq, and_true] at hab
        obtain ⟨rfl, rfl⟩ := hab
        rw [Nat.zero_add] at hct
        have hts := cutB_part htk
        have hla := Lib.hid (cutB_at htk)
        have hline := Lib.hid (split_any t 32 wr (by omega) (hG.out _ hBx.out).2.2.2)
        have hwl := cutB_le 32 t
        obtain ⟨q, hq⟩ : ∃ q, (cutB 32 t).length = q + 1 := ⟨(cutB 32 t).length - 1, by have := cutB_pos 32 t; omega⟩
        clear htk
        by_cases hk0 : k = 0
        · obtain rfl : k = 0 := hk0
          obtain rfl : m = 0 := hmk.out
          obtain ⟨p, hp⟩ := get_some (l := cutB 32 t) (k := q) (by omega)
          have hps := cutB_part hp
          have hfst := Lib.hid (hy.out.first hla.out (last_is hq hp))
          have hs1 := Lib.hid (show itemsSz xs ≤ sumTo s.data.toList 1 by have h1 := hsz.out; rw [sumTo_zero] at h1; omega)
          have hpat := Lib.hid (fun (V : World) (a : Option Addr) (h : RS V a (cutB 32 t)) => h.at hp)
          have hrd := Lib.hid (fun (V : World) (hb : Below w.heap.size w V) => impl_ReadDecimal p V (by omega) (hG.out V hb).1 (hG.out V hb).2.1)
          have hq1 : ((q + 1 : Nat) : Int) - 1 = (q : Int) := by omega
          have hql : q ≤ 1048576 := by omega
          have hline' := hline.out
          rw [hq] at hline'
          replace hline := Lib.hid hline'
          clear hline' hp hq hwl
          generalize readI p.data.toList = VP at *
          generalize readL p.data.toList = BP at *
          go_wp2_with fail
          refine hline.out.mono ?_
          rintro e w4 ⟨rfl, hr4, hb4⟩
          obtain ⟨b2, o2, hab, hpc⟩ := hpat.out _ _ hr4
          simp only [Option.some.injEq, Addr.mk.injEq, and_true] at hab
          obtain ⟨rfl, rfl⟩ := hab
          rw [Nat.zero_add] at hpc
          have hbk4 := Lib.hid ((hb4.block _ hPl).trans hbk.out)
          have hown4 := Lib.hid (hown.out.kept hb4)
          have hB4 := Lib.hid (bthen hBr.out hb4)
          have hBx4 := Lib.hid (bthen hBx.out hb4)
          have hPl4 : w3.heap.size + 1 < w4.heap.size := by have := hb4.size; omega
          clear hb4 hr4
          go_wp2_with fail
          refine (hrd.out _ hBx4.out).mono ?_
          rintro e w5 ⟨rfl, hb5⟩
          have hbk5 := Lib.hid ((hb5.block _ hPl4).trans hbk4.out)
          have hown5 := Lib.hid (hown4.out.kept hb5)
          have hB5 := Lib.hid (bthen hB4.out hb5)
          obtain ⟨r0, r1, r2, r3⟩ := blk_cell hbk5.out
          clear hb5
          go_wp2_with fail
          go_roundw
          case rel => exact ⟨1, 0, VP, xs, a3, c3, by omega, by omega, by first | rfl | go_num, Lib.hid rfl, hxm, hfst, hs1, OV.of (hown5.out.far hbk5.out (by decide) 0 _).1, blk_set hbk5.out 0 _, hB5.out.setCell (by dsimp only; omega) _⟩
          case measure => simp [intOf]; omega
        · have hk1 : 1 ≤ k := by omega
          have hkz : ¬ (k : Int) = 0 := by omega
          have hmk1 : m + 1 = k := by have := hmk.out; omega
          have h2 := Lib.hid (show k + 1 < (cutL 10 s.data.toList).length by rw [hlen.out]; omega)
          by_cases h3 : (cutB 32 t).length = 3
          · obtain ⟨nm, hnm⟩ := get_some (l := cutB 32 t) (k := 0) (by omega)
            obtain ⟨kk, hkk⟩ := get_some (l := cutB 32 t) (k := 1) (by omega)
            obtain ⟨rr, hrr⟩ := get_some (l := cutB 32 t) (k := 2) (by omega)
            have hw3' := cutB_three h3 hnm hkk hrr
            have hrs := cutB_part hrr
            have hnms := cutB_part hnm
            have hpat := Lib.hid (fun (V : World) (a : Option Addr) (h : RS V a (cutB 32 t)) => And.intro (h.at hnm) (And.intro (h.at hkk) (h.at hrr)))
            have hcs := cut_sizes rr.data.toList
            rw [len_bytes] at hcs
            have hcut := Lib.hid (fun (V : World) (hb : Below w.heap.size w V) => cut_any rr V (by omega) (hG.out V hb).2.2.2)
            have hrl := Lib.hid (fun (x : Itm) (wd' : Int) (hi : itemB x wd' = true) (hw : wd' ≤ 20) (e : t.data.toList = lineC x) => read_line (a := (Lib.cut rr.data.toList [45]).1) (b := (Lib.cut rr.data.toList [45]).2.1) hi hw (e ▸ hw3') rfl rfl)
            have hn3 := three_name hw3'
            rw [len_bytes, len_bytes] at hn3
            have hsum := Lib.hid (sumTo_succ hla.out)
            have hidx := Lib.hid (fun (V : World) (hb : Below w.heap.size w V) => idx_any kk V (hG.out V hb).2.2.1)
            obtain ⟨A, hA⟩ : ∃ A : ByteArray, A = ⟨(Lib.cut rr.data.toList [45]).1.toArray⟩ := ⟨_, rfl⟩
            obtain ⟨B, hBB⟩ : ∃ B : ByteArray, B = ⟨(Lib.cut rr.data.toList [45]).2.1.toArray⟩ := ⟨_, rfl⟩
            have hAs : A.size ≤ 1048576 := by rw [hA, ba_size]; omega
            have hBs : B.size ≤ 1048576 := by rw [hBB, ba_size]; omega
            have hAd : (Lib.cut rr.data.toList [45]).1 = A.data.toList := by rw [hA]
            have hBd : (Lib.cut rr.data.toList [45]).2.1 = B.data.toList := by rw [hBB]
            rw [← hA, ← hBB] at hcut
            rw [hAd, hBd, self_text nm] at hrl
            have hrA := Lib.hid (fun (V : World) (hb : Below w.heap.size w V) => impl_ReadDecimal A V hAs (hG.out V hb).1 (hG.out V hb).2.1)
            have hrB := Lib.hid (fun (V : World) (hb : Below w.heap.size w V) => impl_ReadDecimal B V hBs (hG.out V hb).1 (hG.out V hb).2.1)
            generalize (Lib.cut rr.data.toList [45]).2.2 = fnd at *
            clear hA hBB hAd hBd hcs hnm hkk hrr hw3' hq
            generalize readI A.data.toList = VA at *
            generalize readI B.data.toList = VB at *
            generalize readL A.data.toList = RA at *
            generalize readL B.data.toList = RB at *
            generalize kindI kk.data.toList = KQ at *
            have hline' := hline.out
            rw [h3] at hline'
            replace hline := Lib.hid hline'
            clear hline' hwl h3
            go_wp2_with fail
            refine hline.out.mono ?_
            rintro e w4 ⟨rfl, hr4, hb4⟩
            obtain ⟨⟨b2, o2, hab, d0⟩, ⟨b3_, o3_, e1, d1⟩, ⟨b4_, o4_, e2, d2⟩⟩ := hpat.out _ _ hr4
            simp only [Option.some.injEq, Addr.mk.injEq, and_true] at hab e1 e2
            obtain ⟨rfl, rfl⟩ := hab
            obtain ⟨rfl, rfl⟩ := e1
            obtain ⟨rfl, rfl⟩ := e2
            simp only [Nat.zero_add] at d0 d1 d2
            have hs4 := hb4.size
            have hbk4 := Lib.hid ((hb4.block _ hPl).trans hbk.out)
            have hown4 := Lib.hid (hown.out.kept hb4)
            have hB4 := Lib.hid (bthen hBr.out hb4)
            have hBx4 := Lib.hid (bthen hBx.out hb4)
            have hwb4 : wr.heap.size < w4.heap.size := World.block_lt_of_cell? _ _ d0
            have hr04 := keep hb4 hr0
            have hr14 := keep hb4 hr1
            have hrf04 := keepf hb4 hr0 hrf0
            have hrf14 := keepf hb4 hr1 hrf1
            clear hb4 hr4
            go_wp2_with fail
            refine (hcut.out _ hBx4.out).mono ?_
            rintro e w5 ⟨rfl, hb5⟩
            have hs5 := hb5.size
            have hbk5 := Lib.hid ((hb5.block _ (by omega)).trans hbk4.out)
            have hown5 := Lib.hid (hown4.out.kept hb5)
            have hB5 := Lib.hid (bthen hB4.out hb5)
            have hBx5 := Lib.hid (bthen hBx4.out hb5)
            replace d0 := keep hb5 d0
            replace d1 := keep hb5 d1
            have hr05 := keep hb5 hr04
            have hr15 := keep hb5 hr14
            have hrf05 := keepf hb5 hr04 hrf04
            have hrf15 := keepf hb5 hr14 hrf14
            clear hb5
            go_wp2_with fail
            refine (hrA.out _ hBx5.out).mono ?_
            rintro e w6 ⟨rfl, hb6⟩
            have hs6 := hb6.size
            have hbk6 := Lib.hid ((hb6.block _ (by omega)).trans hbk5.out)
            have hown6 := Lib.hid (hown5.out.kept hb6)
            have hB6 := Lib.hid (bthen hB5.out hb6)
            have hBx6 := Lib.hid (bthen hBx5.out hb6)
            replace d0 := keep hb6 d0
            replace d1 := keep hb6 d1
            have hr06 := keep hb6 hr05
            have hr16 := keep hb6 hr15
            have hrf06 := keepf hb6 hr05 hrf05
            have hrf16 := keepf hb6 hr15 hrf15
            clear hb6
            go_wp2_with fail
            refine (hrB.out _ hBx6.out).mono ?_
            rintro e w7 ⟨rfl, hb7⟩
            have hs7 := hb7.size
            have hbk7 := Lib.hid ((hb7.block _ (by omega)).trans hbk6.out)
            have hown7 := Lib.hid (hown6.out.kept hb7)
            have hB7 := Lib.hid (bthen hB6.out hb7)
            have hBx7 := Lib.hid (bthen hBx6.out hb7)
            replace d0 := keep hb7 d0
            replace d1 := keep hb7 d1
            have hr07 := keep hb7 hr06
            have hr17 := keep hb7 hr16
            have hrf07 := keepf hb7 hr06 hrf06
            have hrf17 := keepf hb7 hr16 hrf16
            clear hb7
            cases RA
            · have hno := Lib.hid (rl_no (RlInv.stop (s := s.data.toList) hk1 h2.out hla.out (fun x wd' hi hw e => by have := (hrl.out x wd' hi hw e).2.1; cases this)))
              go_wp2_with fail
              refine bodyPost_ret (v := .tuple #[.agg #[.int .i64 0, .slice none 0 0], .bool false]) (by simp [results, Tryz.results13, go_sem, *]) rfl ⟨none, 0, by rw [hno.out.1, hno.out.2.1, hno.out.2.2]; rfl, by rw [hno.out.2.1]; exact World.ownsRow_nil _ _ _ _, (hBx7.out.setCell (by dsimp only; omega) _).setCell (by dsimp only; omega) _⟩
            · cases RB
              · have hno := Lib.hid (rl_no (RlInv.stop (s := s.data.toList) hk1 h2.out hla.out (fun x wd' hi hw e => by have := (hrl.out x wd' hi hw e).2.2; cases this)))
                go_wp2_with fail
                refine bodyPost_ret (v := .tuple #[.agg #[.int .i64 0, .slice none 0 0], .bool false]) (by simp [results, Tryz.results13, go_sem, *]) rfl ⟨none, 0, by rw [hno.out.1, hno.out.2.1, hno.out.2.2]; rfl, by rw [hno.out.2.1]; exact World.ownsRow_nil _ _ _ _, (hBx7.out.setCell (by dsimp only; omega) _).setCell (by dsimp only; omega) _⟩
              · have hnx := Lib.hid (hy.out.next (y := ⟨nm, KQ, VA, VB⟩) hk1 h2.out hla.out (fun x wd' hi hw e => (hrl.out x wd' hi hw e).1))
                have hln := Lib.hid (show (xs ++ [(⟨nm, KQ, VA, VB⟩ : Itm)]).length = m + 1 by rw [List.length_append, hxm.out]; rfl)
                have hsz2 := Lib.hid (show itemsSz (xs ++ [(⟨nm, KQ, VA, VB⟩ : Itm)]) ≤ sumTo s.data.toList (k + 1) by
                  rw [items_snoc, hsum.out, len_bytes]
                  have := hsz.out
                  simp only
                  omega)
                have hm63 := Lib.hid (show m + 1 ≤ maxLen by unfold maxLen; omega)
                have hne7 := Lib.hid (hown7.out.ne_block hbk7.out (by decide))
                have bd := below_drewN (Below.refl w7.heap.size w7) 1
                have bA := Lib.hid (bd.alloc (Nat.le_refl _) (.cells #[.string nm, .int .i64 KQ, .int .i64 VA, .int .i64 VB] 63))
                have hoU := Lib.hid (hown7.out.kept bA.out).1
                have hbkU := Lib.hid ((bA.out.block _ (by omega : w3.heap.size + 1 < w7.heap.size)).trans hbk7.out)
                have hrU := Lib.hid (show Row ((w7.drewN 1).alloc (.cells #[.string nm, .int .i64 KQ, .int .i64 VA, .int .i64 VB] 63)) (some ⟨w7.heap.size, 0, none⟩) (⟨nm, KQ, VA, VB⟩ : Itm).cells from row_block (heap_alloc_new (w7.drewN 1) (.cells #[.string nm, .int .i64 KQ, .int .i64 VA, .int .i64 VB] 63)))
                have hsU := Lib.hid (show w3.heap.size ≤ ((w7.drewN 1).alloc (.cells #[.string nm, .int .i64 KQ, .int .i64 VA, .int .i64 VB] 63)).heap.size by have := bA.out.size; omega)
                have hidx7 := Lib.hid (fun (V : World) (hb : Below w3.heap.size w7 V) => hidx.out V (hBx7.out.trans (hb.mono (by omega))))
                obtain ⟨u0, u1, u2, u3⟩ := blk_cell hbk7.out
                have hS := Lib.hid (fun (V : World) (h1 : Below w3.heap.size w7 V) (h2 : V.cell? ⟨wr.heap.size, 0, none⟩ = some (.string nm)) (h3 : V.cell? ⟨wr.heap.size, 1, none⟩ = some (.string kk)) => And.intro h1 (And.intro h2 h3))
                have hdA := keep bA.out d0
                have hdB := keep bA.out d1
                have hat7 := Lib.hid (fun (q : Addr) (hq : a3 = some q) => (show q.block < wr.heap.size from hown.out.2 q hq))
                have hdd0 := keep bd d0
                have hdd1 := keep bd d1
                have hPl7 : w3.heap.size + 1 < w7.heap.size := by omega
                have hPn7 : ¬ w3.heap.size + 1 = w7.heap.size := by omega
                have hPn8 : ¬ w7.heap.size = w3.heap.size + 1 := by omega
                clear bd
                go_wp2_with fail
                (first | go_region_law (first | (refine step_row rfl _ _ 24 rfl w3.heap.size 63 i0 _ 4 40 Tryz.underlying24 hi hz0 hz1 hz2 rfl (by decide) (.slice a3 m c3) m (itemsV xs) rfl hoU.out (some ⟨w7.heap.size, 0, none⟩) 1 1 (⟨nm, KQ, VA, VB⟩ : Itm).cells rfl (by simp [Itm.cells]) hrU.out (item_one' _) hm63.out (by omega) hsU.out ?_; intro v5 w5 hown8 hg5; have hz5 := Lib.hid (blk_far hbkU.out hg5 (own_ne hne7.out)); have hq5 : Below w3.heap.size w7 w5 := (bA.out.mono (by omega)).grown hg5 hsU.out (fun k hk => (hoU.out.lt k hk).1); have hb5 := Lib.hid ((show Below w3.heap.size w3 w5 from (hB7.out.trans hq5))); have he0 := (hg5.cell_far _ (World.block_lt_of_cell? _ _ hdA) (own_ne (fun q hq hb => Nat.ne_of_lt (hat7.out q hq) hb))).trans hdA; have he1 := (hg5.cell_far _ (World.block_lt_of_cell? _ _ hdB) (own_ne (fun q hq hb => Nat.ne_of_lt (hat7.out q hq) hb))).trans hdB; have hSS := hS.out _ hq5 he0 he1; obtain ⟨a5, c5, hv5, _, _⟩ := own_slice hown8; subst hv5; have ho5 := Lib.hid hown8; obtain ⟨r0, r1, r2, r3⟩ := blk_cell hz5.out; clear hown8 hg5) | (go_simp; go_at_call 48; refine (hidx7.out _ ((Below.refl _ _).drew)).mono ?_; rintro e wq ⟨rfl, rfl⟩)) | fail)
                all_goals
                  go_wp2_with fail
                  go_roundw
                  case rel => exact ⟨k + 1, m + 1, wd, xs ++ [⟨nm, KQ, VA, VB⟩], a5, c5, by omega, by omega, by go_num, Lib.hid (by omega), hln, hnx, hsz2, OV.of ((OV.of (by rw [itemsV_append, itemsV_one]; exact ho5.out)).far hz5.out (by decide) 1 _).1, (by first | exact blk_set hz5.out 1 _ | (rw [← hmk1]; exact blk_set hz5.out 1 _)), hb5.out.setCell (by dsimp only; omega) _⟩
                  case measure => simp [intOf]; omega
          · have hno := Lib.hid (rl_no (RlInv.stop (s := s.data.toList) hk1 h2.out hla.out (fun x wd' hi hw e => h3 (line_three hi e))))
            have hne3 : (((q + 1 : Nat) : Int) != 3) = true := by simp; omega
            have hline' := hline.out
            rw [hq] at hline'
            replace hline := Lib.hid hline'
            have hq3 : ¬ (q : Int) + 1 = 3 := by omega
            clear hline' h3 hq hwl
            go_wp2_with fail
            refine hline.out.mono ?_
            rintro e w4 ⟨rfl, hr4, hb4⟩
            have hs4 := hb4.size
            have hBx4 := Lib.hid (bthen hBx.out hb4)
            have hr04 := keep hb4 hr0
            have hr14 := keep hb4 hr1
            have hrf04 := keepf hb4 hr0 hrf0
            have hrf14 := keepf hb4 hr1 hrf1
            clear hb4 hr4
            go_wp2_with fail
            refine bodyPost_ret (v := .tuple #[.agg #[.int .i64 0, .slice none 0 0], .bool false]) (by simp [results, Tryz.results13, go_sem, *]) rfl ⟨none, 0, by rw [hno.out.1, hno.out.2.1, hno.out.2.2]; rfl, by rw [hno.out.2.1]; exact World.ownsRow_nil _ _ _ _, (hBx4.out.setCell (by dsimp only; omega) _).setCell (by dsimp only; omega) _⟩
      · obtain rfl : k = n := by omega
        obtain rfl := hxm.out
        have hxs : itemsSz xs ≤ 1048576 := by
          have h1 := hsz.out
          have h2 := sumTo_le s.data.toList k
          rw [len_bytes] at h2
          omega
        have hcap : xs.length ≤ c3 := by
          obtain ⟨a', c', hv, _, h1, _⟩ := own_slice hown.out.1
          simp only [Value.slice.injEq] at hv
          omega
        have hval := Lib.hid (impl_ValidLayout wd a3 c3 xs wr hown.out.row hxs hcap)
        cases hv : validLayB wd xs
        · have hno := Lib.hid (rl_no (rl_bad hy.out (by rw [hlen.out]) hv))
          rw [hv] at hval
          go_wp2_with fail
          refine hval.out.mono ?_
          rintro e w4 ⟨rfl, hb4⟩
          have hBx4 := Lib.hid (bthen hBx.out hb4)
          have hr04 := keep hb4 hr0
          have hr14 := keep hb4 hr1
          have hrf04 := keepf hb4 hr0 hrf0
          have hrf14 := keepf hb4 hr1 hrf1
          clear hb4
          go_wp2_with fail
          refine bodyPost_ret (v := .tuple #[.agg #[.int .i64 0, .slice none 0 0], .bool false]) (by simp [results, Tryz.results13, go_sem, *]) rfl ⟨none, 0, by rw [hno.out.1, hno.out.2.1, hno.out.2.2]; rfl, by rw [hno.out.2.1]; exact World.ownsRow_nil _ _ _ _, (hBx4.out.setCell (by dsimp only; omega) _).setCell (by dsimp only; omega) _⟩
        · rw [hv] at hval
          have hlt' := Lib.hid (fun (V : World) (hb : Below wr.heap.size wr V) => impl_LayoutText wd a3 c3 xs V (RT.kept hown.out.row hb) hxs hcap (hG.out V (bthen hBx.out hb)).1 (hG.out V (bthen hBx.out hb)).2.2.1)
          have hxt : layoutText wd xs = ⟨(layTextL wd xs).toArray⟩ := by unfold layoutText; rw [hv]; rfl
          have hiff := Lib.hid (fun (e : layTextL wd xs = s.data.toList) => lay_iff hv e)
          have hnot := Lib.hid (fun (e : layTextL wd xs ≠ s.data.toList) => rl_no (rl_not hy.out (by rw [hlen.out]) e))
          have hdec : layoutText wd xs = s ↔ layTextL wd xs = s.data.toList := by
            rw [hxt]
            constructor
            · intro h; rw [← h]
            · intro h; rw [h]
          generalize layoutText wd xs = X at *
          clear hxt
          go_wp2_with fail
          refine hval.out.mono ?_
          rintro e w4 ⟨rfl, hb4⟩
          have hBx4 := Lib.hid (bthen hBx.out hb4)
          have hown4 := Lib.hid (hown.out.kept hb4)
          have hb4' := Lib.hid hb4
          have q04 := keep hb4 q0
          have q14 := keep hb4 q1
          have hr04 := keep hb4 hr0
          have hr14 := keep hb4 hr1
          have hrf04 := keepf hb4 hr0 hrf0
          have hrf14 := keepf hb4 hr1 hrf1
          clear hb4
          go_wp2_with fail
          refine (hlt'.out _ hb4'.out).mono ?_
          rintro e w5 ⟨rfl, hb5⟩
          have hBx5 := Lib.hid (bthen hBx4.out hb5)
          have hown5 := Lib.hid (hown4.out.kept hb5)
          have q05 := keep hb5 q04
          have q15 := keep hb5 q14
          have hr05 := keep hb5 hr04
          have hr15 := keep hb5 hr14
          have hrf05 := keepf hb5 hr04 hrf04
          have hrf15 := keepf hb5 hr14 hrf14
          clear hb5
          by_cases hX : X = s
          · have hyes := Lib.hid (hiff.out (hdec.1 hX))
            have hcmp : (X.toList == s.toList) = true := by rw [text_cmp]; exact decide_eq_true hX
            have hcmp2 : (X.toList != s.toList) = false := by rw [bne, hcmp]; rfl
            clear hdec hX
            go_wp2_with fail
            refine bodyPost_ret (v := .tuple #[.agg #[.int .i64 wd, .slice a3 xs.length c3], .bool true]) (by simp [results, Tryz.results13, go_sem, *]) rfl ⟨a3, c3, by rw [hyes.out.1, hyes.out.2.1, hyes.out.2.2], ?_, (hBx5.out.setCell (by dsimp only; omega) _).setCell (by dsimp only; omega) _⟩
            rw [hyes.out.2.2]
            exact own_mono (ownsRow_setCell_below (ownsRow_setCell_below hown5.out.1 (by dsimp only; omega) _) (by dsimp only; omega) _) (by omega)
          · have hno := Lib.hid (hnot.out (fun e => hX (hdec.2 e)))
            have hcmp : (X.toList == s.toList) = false := by rw [text_cmp]; exact decide_eq_false hX
            have hcmp2 : (X.toList != s.toList) = true := by rw [bne, hcmp]; rfl
            clear hdec hX
            go_wp2_with fail
            refine bodyPost_ret (v := .tuple #[.agg #[.int .i64 0, .slice none 0 0], .bool false]) (by simp [results, Tryz.results13, go_sem, *]) rfl ⟨none, 0, by rw [hno.out.1, hno.out.2.1, hno.out.2.2]; rfl, by rw [hno.out.2.1]; exact World.ownsRow_nil _ _ _ _, (hBx5.out.setCell (by dsimp only; omega) _).setCell (by dsimp only; omega) _⟩
  · have hno := Lib.hid (rl_no (lay_long (s := s.data.toList) (by rw [hlen.out]; omega)))
    have hg2 : ¬ (n : Int) + 1 ≤ 14 := by omega
    clear hn
    go_enter Tryz.func13, Tryz.ntmps13
    go_wp2_with fail
    refine (hsp2.out _ hb1.out).mono ?_
    rintro e w3 ⟨rfl, hr2, hb⟩
    (have hc0 := keep (p := ⟨w.heap.size, 0, none⟩) (v := .int .i64 0) hb (by simp [go_sem, *]); have hf0 := keepf (p := ⟨w.heap.size, 0, none⟩) (v := .int .i64 0) hb (by simp [go_sem, *]) (by simp [go_sem, *]); have hl0 := World.block_lt_of_cell? _ _ hc0; have hc1 := keep (p := ⟨w.heap.size, 1, none⟩) (v := .slice none 0 0) hb (by simp [go_sem, *]); have hf1 := keepf (p := ⟨w.heap.size, 1, none⟩) (v := .slice none 0 0) hb (by simp [go_sem, *]) (by simp [go_sem, *]); have hl1 := World.block_lt_of_cell? _ _ hc1)
    have hB := Lib.hid (bthen hb1.out hb)
    clear hb hr2 hsp2
    go_wp2_with fail
    refine bodyPost_ret (v := .tuple #[.agg #[.int .i64 0, .slice none 0 0], .bool false]) (by simp [results, Tryz.results13, go_sem, *]) rfl ⟨none, 0, by rw [hno.out.1, hno.out.2.1, hno.out.2.2]; rfl, by rw [hno.out.2.1]; exact World.ownsRow_nil _ _ _ _, (hB.out.setCell (by dsimp only; omega) _).setCell (by dsimp only; omega) _⟩
end Go.Proofs.YtmpfnkheohlmiaaGreatDoor
