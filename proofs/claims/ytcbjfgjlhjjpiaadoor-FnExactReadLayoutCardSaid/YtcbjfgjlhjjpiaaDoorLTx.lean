/- The walks of the functions that write a layout's text: what each returns, and that memory has at most new blocks. -/
import Derived.Test.YtcbjfgjlhjjpiaaDoorTextL
import Derived.Test.YtcbjfgjlhjjpiaaDoorDec
import Derived.Test.YtcbjfgjlhjjpiaaDoorTabs
import Derived.Test.YtcbjfgjlhjjpiaaDoorAppM
import Derived.Laws.AppendOwn
import Derived.Lib.SlBytesConst
import Derived.Deep.RegionHeld3
namespace Go.Proofs.YtcbjfgjlhjjpiaaDoor
open Go.RowKit
set_option maxRecDepth 100000
set_option linter.unusedVariables false
set_option linter.unusedSimpArgs false
set_option linter.unnecessarySimpa false

def kindWordsL : List (List UInt8) := [[], [116, 101, 120, 116], [110, 117, 109, 98, 101, 114]]
/-- the table of the words for kinds -/
def Kinds (w : World) : Prop := w.var? Tryd.prog "loop.example/g01012/impl.kindWords" = some (kindWordsL.map fun l => Value.string ⟨l.toArray⟩).toArray
theorem Kinds.kept {w w' : World} (h : Kinds w) (hb : Below w.heap.size w w') : Kinds w' := var_kept h hb
theorem kinds_datum : (Rows.laid_loop_example_g01012_impl_kindWords : DataW Unit) = .agg (kindWordsL.map fun l => .lit (.string l)) := by rfl
theorem kinds_of {W : World} {l : List (String × DataW Unit)} (hL : laidMet Tryd.prog l W) (hm : ("loop.example/g01012/impl.kindWords", (Rows.laid_loop_example_g01012_impl_kindWords : DataW Unit)) ∈ l) : Kinds W := by
  rw [kinds_datum] at hm
  obtain ⟨g', t', cs, fuel, p, hg', ht', hvar, hd⟩ := Lib.laidMet.reads hL hm
  obtain rfl : 0 = g' := Option.some.inj ((show Tryd.prog.globalNamed "loop.example/g01012/impl.kindWords" = some 0 by kernel_rfl).symm.trans hg')
  obtain rfl : 78 = t' := Option.some.inj ((show (Tryd.prog.globals[0]?).map (·.type) = some 78 by kernel_rfl).symm.trans ht')
  unfold Kinds
  rw [hvar, ← texts_of_tab Tryd.underlying78 Tryd.underlying9 (by kernel_rfl) (by kernel_rfl) hd]
theorem Kinds.at {w : World} (h : Kinds w) {k : Nat} (hk : k < 3) : w.cell? ⟨0, k, none⟩ = some (.string ⟨(kindWordsL.getD k []).toArray⟩) := by
  have h1 := World.var?_cell (show Tryd.prog.globalNamed "loop.example/g01012/impl.kindWords" = some 0 by kernel_rfl) h k
  rw [h1]
  have : k = 0 ∨ k = 1 ∨ k = 2 := by omega
  rcases this with rfl | rfl | rfl <;> rfl
theorem kind_word {x : Itm} (h : x.kind = 1 ∨ x.kind = 2) : ∃ k : Nat, x.kind = (k : Int) ∧ k < 3 ∧ (kindWordsL.getD k []) = kindL x.kind := by
  rcases h with h | h
  · exact ⟨1, by rw [h]; rfl, by omega, by rw [h]; rfl⟩
  · exact ⟨2, by rw [h]; rfl, by omega, by rw [h]; rfl⟩
theorem line_text (wd : Int) (xs : List Itm) (k : Nat) (x : Itm) : (⟨(layUp wd xs k).toArray⟩ : ByteArray) ++ (x.name ++ ⟨#[32]⟩ ++ ⟨(kindL x.kind).toArray⟩ ++ ⟨#[32]⟩ ++ ⟨(Lib.itoa x.fr).toArray⟩ ++ ⟨#[45]⟩ ++ ⟨(Lib.itoa x.to).toArray⟩ ++ ⟨#[10]⟩) = ⟨(layUp wd xs k ++ lineL x).toArray⟩ := by
  apply ByteArray.ext
  simp only [ByteArray.data_append]
  unfold lineL
  apply Array.toList_inj.1
  simp
theorem head_text (wd : Int) : (⟨#[119, 105, 100, 116, 104, 32]⟩ : ByteArray) ++ ⟨(Lib.itoa wd).toArray⟩ ++ ⟨#[10]⟩ = ⟨(headL wd).toArray⟩ := by
  apply ByteArray.ext
  simp only [ByteArray.data_append]
  unfold headL
  apply Array.toList_inj.1
  simp
set_option maxHeartbeats 4000000 in
theorem impl_LayoutText (wd : Int) (a : Option Addr) (c : Nat) (xs : List Itm) (w : World) (hx : RT w a xs) (hn : itemsSz xs ≤ 1048576) (hcap : xs.length ≤ c) (ht : Lib.TabIs Tryd.prog w "internal/strconv.uint64pow10" .u64 Lib.pow10Tab) (hK : Kinds w) :
    Calls Tryd.prog 20 #[.agg #[.int .i64 wd, .slice a xs.length c]] w fun e w' => e = .returned (.string (layoutText wd xs)) ∧ Below w.heap.size w w' := by
  have hb1 := Lib.hid (below_alloc (w := w) (.cells #[.int .i64 wd, .slice a xs.length c] 47))
  have hval := Lib.hid (fun (W : World) (hb : Below w.heap.size w W) => impl_ValidLayout wd a c xs W (hx.kept hb) hn hcap)
  cases hvl : validLayB wd xs
  · have hf := Lib.hid (lt_no hvl)
    rw [hvl] at hval
    go_enter Tryd.func20, Tryd.ntmps20
    go_wp2_with fail
    refine (hval.out _ hb1.out).mono ?_
    rintro e w2 ⟨rfl, hb⟩
    have hB2 := Lib.hid (bthen hb1.out hb)
    clear hb
    go_wp2_with fail
    go_ret
    exact ⟨ret_str (by rw [hf.out]), hB2.out⟩
  rw [hvl] at hval
  obtain ⟨w1_, w2_, w3_, _⟩ := validLay_is hvl
  have hf := Lib.hid (lt_yes hvl)
  have hit := Lib.hid (fun (x : Itm) (hxm : x ∈ xs) => validLay_item hvl hxm)
  have hul := Lib.hid (fun k hk => layUp_len hvl k hk)
  have hxs := Lib.hid hx
  have hdec := Lib.hid (fun (n : Int) (h0 : -1 ≤ n) (h1 : n ≤ 20) (W : World) (hb : Below w.heap.size w W) => impl_Decimal n W (by omega) (by omega) (TabIs.kept ht hb))
  have hxl := itemsSz_len xs
  have hwl := Lib.itoa_length_le wd (by omega) (by omega)
  have hl1 : ¬ 9223372036854775807 < 6 + (Lib.itoa wd).length := by omega
  have hl2 : ¬ 9223372036854775807 < 6 + (Lib.itoa wd).length + 1 := by omega
  clear hvl hx
  go_enter Tryd.func20, Tryd.ntmps20
  go_wp2_with fail
  refine (hval.out _ hb1.out).mono ?_
  rintro e w2 ⟨rfl, hb⟩
  (have hc0 := keep (p := ⟨w.heap.size, 0, none⟩) (v := .int .i64 wd) hb (by simp [go_sem, *]); have hf0 := keepf (p := ⟨w.heap.size, 0, none⟩) (v := .int .i64 wd) hb (by simp [go_sem, *]) (by simp [go_sem, *]); have hl0 := World.block_lt_of_cell? _ _ hc0; have hc1 := keep (p := ⟨w.heap.size, 1, none⟩) (v := .slice a xs.length c) hb (by simp [go_sem, *]); have hf1 := keepf (p := ⟨w.heap.size, 1, none⟩) (v := .slice a xs.length c) hb (by simp [go_sem, *]) (by simp [go_sem, *]); have hl1 := World.block_lt_of_cell? _ _ hc1)
  have hB2 := Lib.hid (bthen hb1.out hb)
  clear hb
  go_wp2_with fail
  refine (hdec.out wd (by omega) (by omega) _ hB2.out).mono ?_
  rintro e w3 ⟨rfl, hb⟩
  have y1 := keep hb hc1
  have hB3 := Lib.hid (bthen hB2.out hb)
  have hHd := Lib.hid (head_text wd)
  clear hb hc0 hc1 hf0 hf1 hl0 hl1
  go_wp2_with fail
  go_loopw [3, 17] (fun v i wr => ∃ (k : Nat) (T : ByteArray), k ≤ xs.length ∧ i = .int .i64 k ∧ v = .string T ∧ Hid (T = ⟨(layUp wd xs k).toArray⟩) ∧ Below w3.heap.size w3 wr) (fun _ i _ => xs.length - (intOf i).toNat)
  case atStart => exact ⟨0, _, by omega, rfl, rfl, Lib.hid (by rw [hHd.out, layUp_zero]), Below.refl _ _⟩
  case round =>
    obtain ⟨k, T, hk, rfl, rfl, hT, hb⟩ := hrel
    have z1 := keep hb y1
    have hBr := Lib.hid (bthen hB3.out hb)
    have hbk := Lib.hid hb
    clear hb
    by_cases hlt : k < xs.length
    · have hlt' : (k : Int) < (xs.length : Int) := by omega
      obtain ⟨x, hxk⟩ := get_some (l := xs) (k := k) hlt
      obtain ⟨b1, o1, rfl, q0, q1, q2, q3⟩ := (hxs.out.kept hBr.out).at hxk
      have hitx := hit.out x (List.mem_of_getElem? hxk)
      obtain ⟨f1, f2, f3⟩ := itemB_field hitx
      have hnm := item_name hitx
      obtain ⟨kk, hkk, hk3, hkw⟩ := kind_word (item_kind hitx)
      have hkl := kindL_len x.kind
      have hgc := hK.kept hBr.out |>.at hk3
      rw [hkw] at hgc
      rw [hkk] at q1
      have hkk3 : (kk : Int) < 3 := by omega
      have hTl := hul.out k hk
      have hsz : T.size ≤ 28 + 64 * k := by rw [hT.out, ba_size]; exact hTl
      have hnx := Lib.hid (show T ++ (x.name ++ ⟨#[32]⟩ ++ ⟨(kindL x.kind).toArray⟩ ++ ⟨#[32]⟩ ++ ⟨(Lib.itoa x.fr).toArray⟩ ++ ⟨#[45]⟩ ++ ⟨(Lib.itoa x.to).toArray⟩ ++ ⟨#[10]⟩) = ⟨(layUp wd xs (k + 1)).toArray⟩ by rw [hT.out, layUp_succ hxk]; exact line_text wd xs k x)
      have hdf := Lib.hid (hdec.out x.fr (by omega) (by omega))
      have hdt := Lib.hid (hdec.out x.to (by omega) (by omega))
      have hF := Lib.itoa_length_le x.fr (by omega) (by omega)
      have hG := Lib.itoa_length_le x.to (by omega) (by omega)
      rw [← ba_size] at hF hG
      rw [← ba_size] at hkl
      clear hxk hitx hkk hk3 hkw hTl
      generalize (⟨(Lib.itoa x.fr).toArray⟩ : ByteArray) = F at *
      generalize (⟨(Lib.itoa x.to).toArray⟩ : ByteArray) = G at *
      generalize (⟨(kindL x.kind).toArray⟩ : ByteArray) = KW at *
      obtain ⟨nm, kd, f, t⟩ := x
      simp only at q0 q2 q3 f1 f2 f3 hnm hdf hdt hnx
      have g1 : ¬ 9223372036854775807 < nm.size + 1 := by omega
      have g2 : ¬ 9223372036854775807 < nm.size + 1 + KW.size := by omega
      have g3 : ¬ 9223372036854775807 < nm.size + 1 + KW.size + 1 := by omega
      have g4 : ¬ 9223372036854775807 < nm.size + 1 + KW.size + 1 + F.size := by omega
      have g5 : ¬ 9223372036854775807 < nm.size + 1 + KW.size + 1 + F.size + 1 := by omega
      have g6 : ¬ 9223372036854775807 < nm.size + 1 + KW.size + 1 + F.size + 1 + G.size := by omega
      have g7 : ¬ 9223372036854775807 < nm.size + 1 + KW.size + 1 + F.size + 1 + G.size + 1 := by omega
      have g8 : ¬ 9223372036854775807 < T.size + (nm.size + 1 + KW.size + 1 + F.size + 1 + G.size + 1) := by omega
      have hba := below_alloc (w := wr) (.cells #[.string nm, .int .i64 kk, .int .i64 f, .int .i64 t] 77)
      have c0 : (wr.alloc (.cells #[.string nm, .int .i64 kk, .int .i64 f, .int .i64 t] 77)).cell? ⟨wr.heap.size, 0, none⟩ = some (.string nm) := by simp [go_sem]
      have c1 : (wr.alloc (.cells #[.string nm, .int .i64 kk, .int .i64 f, .int .i64 t] 77)).cell? ⟨wr.heap.size, 1, none⟩ = some (.int .i64 kk) := by simp [go_sem]
      have c2 : (wr.alloc (.cells #[.string nm, .int .i64 kk, .int .i64 f, .int .i64 t] 77)).cell? ⟨wr.heap.size, 2, none⟩ = some (.int .i64 f) := by simp [go_sem]
      have c3 : (wr.alloc (.cells #[.string nm, .int .i64 kk, .int .i64 f, .int .i64 t] 77)).cell? ⟨wr.heap.size, 3, none⟩ = some (.int .i64 t) := by simp [go_sem]
      have cg := keep hba hgc
      have hBs := Lib.hid (bthen hBr.out hba)
      have hb' := Lib.hid (bthen hbk.out hba)
      clear hba hgc
      go_wp2_with fail
      generalize hW : (wr.alloc (.cells #[.string nm, .int .i64 kk, .int .i64 f, .int .i64 t] 77)) = wz at *
      (first | go_region_held3 (fun W => Below wz.heap.size wz W ∧ W.cell? ⟨wr.heap.size, 0, none⟩ = some (.string nm) ∧ W.cell? ⟨wr.heap.size, 1, none⟩ = some (.int .i64 kk) ∧ W.cell? ⟨wr.heap.size, 2, none⟩ = some (.int .i64 f) ∧ W.cell? ⟨wr.heap.size, 3, none⟩ = some (.int .i64 t) ∧ W.cell? ⟨0, kk, none⟩ = some (.string KW)) (first | exact held5 (below_drewN (Below.refl _ _) 1) c0 c1 c2 c3 cg | (rename Below wz.heap.size wz _ ∧ _ => hH; refine held5 ?_ c0 c1 c2 c3 cg; (refine bthen hH.1 ?_; assumption))) (first | (go_at_call 31; ((with_reducible refine (hdf.out _ (bthen hBs.out (And.left ‹Below wz.heap.size wz _ ∧ _›))).mono ?_); rintro e wq0 ⟨rfl, hbq⟩)) | (go_at_call 31; ((with_reducible refine (hdt.out _ (bthen hBs.out (And.left ‹Below wz.heap.size wz _ ∧ _›))).mono ?_); rintro e wq1 ⟨rfl, hbq⟩))) | fail)
      all_goals
        have hHb := And.left ‹Below wz.heap.size wz _ ∧ _›
        clear hW
        go_wp2_with fail
        go_roundw
        case rel => exact ⟨k + 1, _, by omega, by go_num, rfl, hnx, bthen hb'.out hHb⟩
        case measure => simp [intOf]; omega
    · obtain rfl : k = xs.length := by omega
      go_wp2_with fail
      go_ret
      exact ⟨ret_str (by rw [hf.out, hT.out]), hBr.out⟩
theorem info_u8 : (Tryd.prog.info? 5).map (fun i => (i.zero, i.size, i.bytes)) = some (some (.int .u8 0), 1, 1) := by kernel_rfl
theorem line_bytes (wd : Int) (xs : List Itm) (k : Nat) (x : Itm) : (x.name ++ ⟨#[32]⟩ ++ ⟨(kindL x.kind).toArray⟩ ++ ⟨#[32]⟩ ++ ⟨(Lib.itoa x.fr).toArray⟩ ++ ⟨#[45]⟩ ++ ⟨(Lib.itoa x.to).toArray⟩ ++ ⟨#[10]⟩ : ByteArray).data.toList = lineL x := by
  simp only [ByteArray.data_append]
  unfold lineL
  simp
set_option maxHeartbeats 4000000 in
theorem spec_l04Text (B : Nat) (wd : Int) (a : Option Addr) (c : Nat) (xs : List Itm) (w : World) (hca : w.cell? ⟨B, 0, none⟩ = some (.int .i64 wd)) (hcb : w.cell? ⟨B, 1, none⟩ = some (.slice a xs.length c)) (hx : RT w a xs) (hvl : validLayB wd xs = true) :
    Calls Tryd.prog 46 #[.pointer (some ⟨B, 0, none⟩)] w fun e w' => e = .returned (.string ⟨(layUp wd xs xs.length).toArray⟩) ∧ Below w.heap.size w w' := by
  obtain ⟨w1_, w2_, w3_, _⟩ := validLay_is hvl
  have hit := Lib.hid (fun (x : Itm) (hxm : x ∈ xs) => validLay_item hvl hxm)
  have hul := Lib.hid (fun k hk => layUp_len hvl k hk)
  have hxs := Lib.hid hx
  have hwl := Lib.itoa_length_le wd (by omega) (by omega)
  have hl1 : ¬ 9223372036854775807 < 6 + (Lib.itoa wd).length := by omega
  have hl2 : ¬ 9223372036854775807 < 6 + (Lib.itoa wd).length + 1 := by omega
  obtain ⟨H0, hH0⟩ : ∃ H0 : ByteArray, (⟨#[119, 105, 100, 116, 104, 32]⟩ : ByteArray) ++ ⟨(Lib.itoa wd).toArray⟩ ++ ⟨#[10]⟩ = H0 := ⟨_, rfl⟩
  have hHd := Lib.hid (show H0 = ⟨(headL wd).toArray⟩ from hH0.symm.trans (head_text wd))
  have hHl := Lib.hid (show H0.data.toList = layUp wd xs 0 by rw [hHd.out, layUp_zero])
  have hHs : H0.size ≤ 28 := by
    have := hul.out 0 (by omega)
    rw [← hHl.out, len_bytes] at this; omega
  have hcv := fun (W : World) (s : ByteArray) => Lib.run_convert_string_bytes (P := Tryd.prog) W 9 24 5 s Tryd.underlying9 Tryd.underlying24 Tryd.underlying5
  obtain ⟨i0, hi, hz0, hz1, hz2⟩ := info_parts info_u8
  clear hvl hx
  go_enter Tryd.func46, Tryd.ntmps46
  go_wp2_with fail
  refine (spec_l01Dec wd _ (by omega) (by omega)).mono ?_
  rintro e w2 ⟨rfl, hb⟩
  have hM := Lib.hid (ownM_conv w2 5 H0 (by unfold maxLen; omega))
  rw [hHl.out] at hM
  have hbw := Lib.hid (Lib.bytesWorld_below w2 5 H0)
  go_wp2_with fail
  -- LOOP
  go_loopw [3, 4] (fun v i wr => ∃ k : Nat, k ≤ xs.length ∧ i = .int .i64 k ∧ Hid (ownM wr w2.heap.size 5 v (layUp wd xs k)) ∧ Hid (Below w2.heap.size w2 wr)) (fun _ i _ => xs.length - (intOf i).toNat)
  case atStart => exact ⟨0, by omega, rfl, by first | exact hM | (have hl := len_bytes H0; rw [hHl.out] at hl; rw [← hl]; exact hM), Lib.hid hbw.out⟩
  case round =>
    obtain ⟨k, hk, rfl, hM, hbl⟩ := hrel
    have hBr := Lib.hid (bthen hb hbl.out)
    have z0 := keep hBr.out hca
    have z1 := keep hBr.out hcb
    have hwr := Lib.hid (hbl.out.size)
    by_cases hlt : k < xs.length
    · have hlt' : (k : Int) < (xs.length : Int) := by omega
      obtain ⟨x, hxk⟩ := get_some (l := xs) (k := k) hlt
      obtain ⟨b1, o1, rfl, p0, p1, p2, p3⟩ := hxs.out.at hxk
      have hb1 : b1 < w.heap.size := World.block_lt_of_cell? _ _ p0
      have hw2 := hb.size
      have q0 := keep hBr.out p0
      have q1 := keep hBr.out p1
      have q2 := keep hBr.out p2
      have q3 := keep hBr.out p3
      have hitx := hit.out x (List.mem_of_getElem? hxk)
      obtain ⟨f1, f2, f3⟩ := itemB_field hitx
      have hnm := item_name hitx
      have hkd := item_kind hitx
      have hTl := hul.out k hk
      have hnx := Lib.hid (show layUp wd xs k ++ (x.name ++ ⟨#[32]⟩ ++ ⟨(kindL x.kind).toArray⟩ ++ ⟨#[32]⟩ ++ ⟨(Lib.itoa x.fr).toArray⟩ ++ ⟨#[45]⟩ ++ ⟨(Lib.itoa x.to).toArray⟩ ++ ⟨#[10]⟩ : ByteArray).data.toList = layUp wd xs (k + 1) by rw [line_bytes wd xs k x, layUp_succ hxk])
      have hdf := Lib.hid (fun W => spec_l01Dec x.fr W (by omega) (by omega))
      have hdt := Lib.hid (fun W => spec_l01Dec x.to W (by omega) (by omega))
      have hF := Lib.itoa_length_le x.fr (by omega) (by omega)
      have hG := Lib.itoa_length_le x.to (by omega) (by omega)
      rw [← ba_size] at hF hG
      clear hxk hitx p0 p1 p2 p3
      generalize (⟨(Lib.itoa x.fr).toArray⟩ : ByteArray) = F at *
      generalize (⟨(Lib.itoa x.to).toArray⟩ : ByteArray) = G at *
      obtain ⟨nm, kd, f, t⟩ := x
      simp only at q0 q1 q2 q3 f1 f2 f3 hnm hdf hdt hnx hkd
      have g1 : ¬ 9223372036854775807 < nm.size + 1 := by omega
      have hS := Lib.hid (fun (V : World) (hV : Below w2.heap.size wr V) => (And.intro hV (And.intro (heldB hV (by omega) q0) (And.intro (heldB hV (by omega) q2) (heldB hV (by omega) q3)))))
      have hSt := Lib.hid (fun (V V' : World) (hV : Below w2.heap.size wr V) (hV' : Below V.heap.size V V') => (hV.trans (hV'.mono (Nat.le_trans hwr.out hV.size)) : Below w2.heap.size wr V'))
      rcases hkd with hkd | hkd
      · obtain rfl : kd = 1 := hkd
        have hkw : (⟨(kindL 1).toArray⟩ : ByteArray) = ⟨#[116, 101, 120, 116]⟩ := rfl
        rw [hkw] at hnx
        have g2 : ¬ 9223372036854775807 < nm.size + 1 + 4 := by omega
        have g3 : ¬ 9223372036854775807 < nm.size + 1 + 4 + 1 := by omega
        have g4 : ¬ 9223372036854775807 < nm.size + 1 + 4 + 1 + F.size := by omega
        have g5 : ¬ 9223372036854775807 < nm.size + 1 + 4 + 1 + F.size + 1 := by omega
        have g6 : ¬ 9223372036854775807 < nm.size + 1 + 4 + 1 + F.size + 1 + G.size := by omega
        have g7 : ¬ 9223372036854775807 < nm.size + 1 + 4 + 1 + F.size + 1 + G.size + 1 := by omega
        obtain ⟨X, hX⟩ : ∃ X : ByteArray, X = nm ++ ⟨#[32]⟩ ++ ⟨#[116, 101, 120, 116]⟩ ++ ⟨#[32]⟩ ++ F ++ ⟨#[45]⟩ ++ G ++ ⟨#[10]⟩ := ⟨_, rfl⟩
        have hXs : X.size ≤ 128 := by
          have e1 : (⟨#[32]⟩ : ByteArray).size = 1 := rfl
          have e2 : (⟨#[45]⟩ : ByteArray).size = 1 := rfl
          have e3 : (⟨#[10]⟩ : ByteArray).size = 1 := rfl
          have e4 : (⟨#[116, 101, 120, 116]⟩ : ByteArray).size = 4 := rfl
          rw [hX]; simp only [ByteArray.size_append]; omega
        have hm1 := Lib.hid (show (layUp wd xs k).length + X.size ≤ maxLen by unfold maxLen; omega)
        have hm2 := Lib.hid (show (layUp wd xs k).length + X.size ≤ 140737488355328 by omega)
        have hXl := Lib.hid (show layUp wd xs k ++ X.data.toList = layUp wd xs (k + 1) by rw [hX]; exact hnx.out)
        have hX' := Lib.hid hX
        clear hX hXs hnx hkw
        go_wp2_with fail
        (first | go_region_held3 (fun V => Below w2.heap.size wr V ∧ V.cell? ⟨b1, o1 + k * 4, none⟩ = some (.string nm) ∧ V.cell? ⟨b1, o1 + k * 4 + 2, none⟩ = some (.int .i64 f) ∧ V.cell? ⟨b1, o1 + k * 4 + 3, none⟩ = some (.int .i64 t)) (first | exact hS.out _ (below_drewN (Below.refl _ _) 1) | (refine hS.out _ ?_; assumption)) (first | (go_at_call 62; ((with_reducible refine (hdf.out _).mono ?_); rintro e wq0 ⟨rfl, hbq0⟩; have hq0 := hSt.out _ _ (And.left ‹Below w2.heap.size wr _ ∧ _›) hbq0; have hk0 := Lib.hid (hbq0))) | (go_at_call 62; ((with_reducible refine (hdt.out _).mono ?_); rintro e wq1 ⟨rfl, hbq1⟩; have hq1 := hSt.out _ _ (And.left ‹Below w2.heap.size wr _ ∧ _›) hbq1; have hk1 := Lib.hid (hbq1))) | (refine step_append_M rfl _ _ 24 9 rfl w2.heap.size 5 i0 Tryd.underlying24 Tryd.underlying9 hi hz0 hz1 hz2 u3 (layUp wd xs k) rfl (by first | exact (hM.out.kept (below_drewN (Below.refl _ _) 1)) | exact hM.out.kept (bthen (below_drewN (Below.refl wr.heap.size wr) 1) (bthen hk0.out hk1.out)) | exact hM.out.kept (bthen (below_drewN (Below.refl wr.heap.size wr) 1) (bthen hk1.out hk0.out))) X (by first | rfl | (rw [hX'.out]; rfl)) hm1.out hm2.out (Nat.le_trans hwr.out (And.left ‹Below w2.heap.size wr _ ∧ _›).size) ?_; intro v5 w5 hown5 hg5; have hq5 : Below w2.heap.size wr w5 := (And.left ‹Below w2.heap.size wr _ ∧ _›).grown hg5 (Nat.le_trans hwr.out (And.left ‹Below w2.heap.size wr _ ∧ _›).size) (fun k hk => (hM.out.lt k hk).1); rw [hXl.out] at hown5; have ho5 := Lib.hid hown5; clear hown5 hg5)) | fail)
        all_goals
          go_wp2_with fail
          go_roundw
          case rel => exact ⟨k + 1, by omega, by go_num, ho5, Lib.hid (hbl.out.trans hq5)⟩
          case measure => simp [intOf]; omega
      · obtain rfl : kd = 2 := hkd
        have hkw : (⟨(kindL 2).toArray⟩ : ByteArray) = ⟨#[110, 117, 109, 98, 101, 114]⟩ := rfl
        rw [hkw] at hnx
        have g2 : ¬ 9223372036854775807 < nm.size + 1 + 6 := by omega
        have g3 : ¬ 9223372036854775807 < nm.size + 1 + 6 + 1 := by omega
        have g4 : ¬ 9223372036854775807 < nm.size + 1 + 6 + 1 + F.size := by omega
        have g5 : ¬ 9223372036854775807 < nm.size + 1 + 6 + 1 + F.size + 1 := by omega
        have g6 : ¬ 9223372036854775807 < nm.size + 1 + 6 + 1 + F.size + 1 + G.size := by omega
        have g7 : ¬ 9223372036854775807 < nm.size + 1 + 6 + 1 + F.size + 1 + G.size + 1 := by omega
        obtain ⟨X, hX⟩ : ∃ X : ByteArray, X = nm ++ ⟨#[32]⟩ ++ ⟨#[110, 117, 109, 98, 101, 114]⟩ ++ ⟨#[32]⟩ ++ F ++ ⟨#[45]⟩ ++ G ++ ⟨#[10]⟩ := ⟨_, rfl⟩
        have hXs : X.size ≤ 128 := by
          have e1 : (⟨#[32]⟩ : ByteArray).size = 1 := rfl
          have e2 : (⟨#[45]⟩ : ByteArray).size = 1 := rfl
          have e3 : (⟨#[10]⟩ : ByteArray).size = 1 := rfl
          have e4 : (⟨#[110, 117, 109, 98, 101, 114]⟩ : ByteArray).size = 6 := rfl
          rw [hX]; simp only [ByteArray.size_append]; omega
        have hm1 := Lib.hid (show (layUp wd xs k).length + X.size ≤ maxLen by unfold maxLen; omega)
        have hm2 := Lib.hid (show (layUp wd xs k).length + X.size ≤ 140737488355328 by omega)
        have hXl := Lib.hid (show layUp wd xs k ++ X.data.toList = layUp wd xs (k + 1) by rw [hX]; exact hnx.out)
        have hX' := Lib.hid hX
        clear hX hXs hnx hkw
        go_wp2_with fail
        (first | go_region_held3 (fun V => Below w2.heap.size wr V ∧ V.cell? ⟨b1, o1 + k * 4, none⟩ = some (.string nm) ∧ V.cell? ⟨b1, o1 + k * 4 + 2, none⟩ = some (.int .i64 f) ∧ V.cell? ⟨b1, o1 + k * 4 + 3, none⟩ = some (.int .i64 t)) (first | exact hS.out _ (below_drewN (Below.refl _ _) 1) | (refine hS.out _ ?_; assumption)) (first | (go_at_call 62; ((with_reducible refine (hdf.out _).mono ?_); rintro e wq0 ⟨rfl, hbq0⟩; have hq0 := hSt.out _ _ (And.left ‹Below w2.heap.size wr _ ∧ _›) hbq0; have hk0 := Lib.hid (hbq0))) | (go_at_call 62; ((with_reducible refine (hdt.out _).mono ?_); rintro e wq1 ⟨rfl, hbq1⟩; have hq1 := hSt.out _ _ (And.left ‹Below w2.heap.size wr _ ∧ _›) hbq1; have hk1 := Lib.hid (hbq1))) | (refine step_append_M rfl _ _ 24 9 rfl w2.heap.size 5 i0 Tryd.underlying24 Tryd.underlying9 hi hz0 hz1 hz2 u3 (layUp wd xs k) rfl (by first | exact (hM.out.kept (below_drewN (Below.refl _ _) 1)) | exact hM.out.kept (bthen (below_drewN (Below.refl wr.heap.size wr) 1) (bthen hk0.out hk1.out)) | exact hM.out.kept (bthen (below_drewN (Below.refl wr.heap.size wr) 1) (bthen hk1.out hk0.out))) X (by first | rfl | (rw [hX'.out]; rfl)) hm1.out hm2.out (Nat.le_trans hwr.out (And.left ‹Below w2.heap.size wr _ ∧ _›).size) ?_; intro v5 w5 hown5 hg5; have hq5 : Below w2.heap.size wr w5 := (And.left ‹Below w2.heap.size wr _ ∧ _›).grown hg5 (Nat.le_trans hwr.out (And.left ‹Below w2.heap.size wr _ ∧ _›).size) (fun k hk => (hM.out.lt k hk).1); rw [hXl.out] at hown5; have ho5 := Lib.hid hown5; clear hown5 hg5)) | fail)
        all_goals
          go_wp2_with fail
          go_roundw
          case rel => exact ⟨k + 1, by omega, by go_num, ho5, Lib.hid (hbl.out.trans hq5)⟩
          case measure => simp [intOf]; omega
    · obtain rfl : k = xs.length := by omega
      obtain ⟨g, cap, rfl, hc⟩ := hM.out.cell
      have hback := run_convert_bytes_back (P := Tryd.prog) wr 24 9 5 ⟨g, 0, none⟩ cap (layUp wd xs xs.length) Tryd.underlying24 Tryd.underlying5 Tryd.underlying9 hc
      clear hc
      go_wp2_with fail
      go_ret
      exact ⟨rfl, hBr.out⟩
theorem spec_LayoutText (wd : Int) (a : Option Addr) (c : Nat) (xs : List Itm) (w : World) (hx : RT w a xs) (hn : itemsSz xs ≤ 1048576) (hcap : xs.length ≤ c) :
    Calls Tryd.prog 18 #[.agg #[.int .i64 wd, .slice a xs.length c]] w fun e w' => e = .returned (.string (layoutText wd xs)) ∧ Below w.heap.size w w' := by
  have hb1 := Lib.hid (below_alloc (w := w) (.cells #[.int .i64 wd, .slice a xs.length c] 47))
  have hca : (w.alloc (.cells #[.int .i64 wd, .slice a xs.length c] 47)).cell? ⟨w.heap.size, 0, none⟩ = some (.int .i64 wd) := by simp [go_sem]
  have hcb : (w.alloc (.cells #[.int .i64 wd, .slice a xs.length c] 47)).cell? ⟨w.heap.size, 1, none⟩ = some (.slice a xs.length c) := by simp [go_sem]
  have hval := Lib.hid (spec_l04Ok w.heap.size wd a c xs _ hca hcb (hx.kept hb1.out) hn)
  have htx := Lib.hid (fun (h : validLayB wd xs = true) (W : World) (hb : Below (w.alloc (.cells #[.int .i64 wd, .slice a xs.length c] 47)).heap.size (w.alloc (.cells #[.int .i64 wd, .slice a xs.length c] 47)) W) => spec_l04Text w.heap.size wd a c xs W (keep hb hca) (keep hb hcb) (hx.kept (bthen hb1.out hb)) h)
  clear hca hcb
  cases hvl : validLayB wd xs
  · have hf := Lib.hid (lt_no hvl)
    rw [hvl] at hval
    go_enter Tryd.func18, Tryd.ntmps18
    go_wp2_with fail
    refine hval.out.mono ?_
    rintro e w2 ⟨rfl, hb⟩
    go_wp2_with fail
    go_ret
    exact ⟨ret_str (by rw [hf.out]), bthen hb1.out hb⟩
  · have hf := Lib.hid (lt_yes hvl)
    replace htx := Lib.hid (htx.out hvl)
    rw [hvl] at hval
    go_enter Tryd.func18, Tryd.ntmps18
    go_wp2_with fail
    refine hval.out.mono ?_
    rintro e w2 ⟨rfl, hb⟩
    have hb2 := Lib.hid hb
    clear hb
    go_wp2_with fail
    refine (htx.out _ hb2.out).mono ?_
    rintro e w3 ⟨rfl, hb⟩
    go_wp2_with fail
    go_ret
    exact ⟨ret_str (by rw [hf.out]), bthen (bthen hb1.out hb2.out) hb⟩
theorem powT_kept {w w' : World} (h : Pow10 w) (hb : Below w.heap.size w w') : Pow10 w' := TabIs.kept h hb
end Go.Proofs.YtcbjfgjlhjjpiaaDoor
