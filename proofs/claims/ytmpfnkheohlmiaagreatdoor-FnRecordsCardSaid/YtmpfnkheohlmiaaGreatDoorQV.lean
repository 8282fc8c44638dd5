/- Rows of bytes that a call has made by a conversion, whose block bears a mark behind its cells: appended to. No program in sight. The walks of the functions that write a layout's text: what each returns, and that memory has at most new blocks. -/
import Derived.Test.YtmpfnkheohlmiaaGreatDoorQD
import Derived.Lib.FrozenHead
import Derived.Lib.ConvBytes
import Derived.Lib.AppendStr
import Derived.Laws.IdiomStrings
import Derived.Test.YtmpfnkheohlmiaaGreatDoorQR
import Derived.Test.YtmpfnkheohlmiaaGreatDoorQJ
import Derived.Test.YtmpfnkheohlmiaaGreatDoorQA
import Derived.Laws.AppendOwn
import Derived.Lib.SlBytesConst
import Derived.Deep.RegionHeld3
namespace Go.Proofs.YtmpfnkheohlmiaaGreatDoor
open Go.RowKit
set_option linter.unusedVariables false
set_option linter.unusedSimpArgs false
set_option linter.unnecessarySimpa false

theorem storeCells_G (P : Program) (g o : Nat) (t : TypeId) (fz : Nat × Nat) : ∀ (vs : List Value) (i : Nat) (cur : Array Value) (w : World), w.heap[g]? = some (.cells cur t fz) → (fz.2 ≤ o + i ∨ cur.size ≤ fz.1) → o + i + vs.length ≤ cur.size → (∀ v ∈ vs, v.oneCell' = true) →
    (storeCells ⟨g, o, none⟩ vs i).run P w = .ok () (w.setRow g (cur.toList.take (o + i) ++ vs ++ cur.toList.drop (o + i + vs.length)).toArray)
  | [], i, cur, w, hg, _, _, _ => by
    simp only [storeCells, List.append_nil, List.length_nil, Nat.add_zero, List.take_append_drop, Array.toArray_toList]
    rw [setRow_self w g cur t fz hg]
    rfl
  | v :: rest, i, cur, w, hg, hfz, hl, h1 => by
    have hi : o + i < cur.size := by simp at hl; omega
    have hadd : (⟨g, o, none⟩ : Addr).add i = ⟨g, o + i, none⟩ := by unfold Addr.add; split <;> simp_all
    have hcell : w.cell? ⟨g, o + i, none⟩ = some cur[o + i] := by simp [World.cell?, hg, hi]
    have hfro : w.frozen? ⟨g, o + i, none⟩ = false := by
      obtain ⟨lo, hi'⟩ := fz
      simp only [World.frozen?, hg, Bool.and_eq_false_iff, decide_eq_false_iff_not]
      simp only at hfz
      omega
    have hst : (store ((⟨g, o, none⟩ : Addr).add i) v).run P w = .ok () (w.setRow g (cur.setIfInBounds (o + i) v)) := by
      rw [hadd, run_store P w _ v _ (h1 v (by simp)), hcell]
      simp [hfro, setCell_eq_setRow w g (o + i) cur t fz v hg]
    have ih := storeCells_G P g o t fz rest (i + 1) (cur.setIfInBounds (o + i) v) (w.setRow g (cur.setIfInBounds (o + i) v)) (setRow_heap w g cur _ t _ hg) (by simp; omega) (by simp at hl ⊢; omega) (fun x hx => h1 x (by simp [hx]))
    simp only [storeCells, Sem.run_bind, hst, Result.andThen_ok, ih, setRow_setRow]
    congr 3
    have e := list_seg_step cur.toList (o + i) v rest (by simp at hl ⊢; omega)
    simpa [Array.toList_setIfInBounds, Nat.add_assoc] using e
/-- a row of bytes of the call's own; its block may bear a mark behind its cells -/
def ownM (w : World) (base : Nat) (e : TypeId) (v : Value) (l : List UInt8) : Prop :=
  ∃ g cap cur fz, v = .slice (some ⟨g, 0, none⟩) l.length cap ∧ base ≤ g ∧ w.heap[g]? = some (.cells cur e fz) ∧ (fz.2 ≤ l.length ∨ cap ≤ fz.1) ∧ l.length ≤ cap ∧ cap ≤ maxLen ∧ cur.size = cap ∧ cur.toList.take l.length = Lib.byteCells l
theorem ownM.lt {w : World} {base : Nat} {e : TypeId} {v : Value} {l : List UInt8} (h : ownM w base e v l) : ∀ k, v.ownBlock = some k → base ≤ k ∧ k < w.heap.size := by
  obtain ⟨g, cap, cur, fz, rfl, hb, hg, _⟩ := h
  intro k hk
  simp only [Value.ownBlock, Option.some.injEq] at hk
  subst hk
  exact ⟨hb, (Array.getElem?_eq_some_iff.1 hg).1⟩
theorem ownM.kept {w w' : World} {base : Nat} {e : TypeId} {v : Value} {l : List UInt8} (h : ownM w base e v l) (hb : Below w.heap.size w w') : ownM w' base e v l := by
  obtain ⟨g, cap, cur, fz, rfl, h1, hg, r⟩ := h
  exact ⟨g, cap, cur, fz, rfl, h1, (hb.block g (Array.getElem?_eq_some_iff.1 hg).1).trans hg, r⟩
theorem ownM.cell {w : World} {base : Nat} {e : TypeId} {v : Value} {l : List UInt8} (h : ownM w base e v l) : ∃ g cap, v = .slice (some ⟨g, 0, none⟩) l.length cap ∧ ∀ j (hj : j < l.length), w.cell? ((⟨g, 0, none⟩ : Addr).add j) = some (.int .u8 (l[j].toNat : Int)) := by
  obtain ⟨g, cap, cur, fz, rfl, h1, hg, _, _, _, _, ht⟩ := h
  refine ⟨g, cap, rfl, fun j hj => ?_⟩
  have hadd : (⟨g, 0, none⟩ : Addr).add j = ⟨g, j, none⟩ := by unfold Addr.add; split <;> simp_all
  rw [hadd, cell_of_row w g j cur e fz hg]
  have h2 : (Lib.byteCells l)[j]? = some (.int .u8 (l[j].toNat : Int)) := by
    unfold Lib.byteCells
    rw [List.getElem?_map, List.getElem?_eq_getElem hj]; rfl
  rw [← ht, List.getElem?_take, if_pos hj] at h2
  simpa using h2
/-- '[]byte(s)' -/
theorem ownM_conv (w : World) (e : TypeId) (s : ByteArray) (hs : s.size ≤ maxLen) : ownM (Lib.bytesWorld w e s) w.heap.size e (.slice (some ⟨w.heap.size, 0, none⟩) s.size (grownCap w s.size 0 e)) s.data.toList := by
  have hge := grownCap_ge w s.size 0 e
  have hcm := grownCap_le_maxLen w s.size 0 e hs
  have hcs : (Lib.bytesCells w e s).size = grownCap w s.size 0 e := by
    unfold Lib.bytesCells
    have : s.data.size = s.size := rfl
    simp; omega
  refine ⟨w.heap.size, grownCap w s.size 0 e, _, _, by rw [len_bytes], Nat.le_refl _, Lib.bytesWorld_at_new w e s, Or.inr (by rw [hcs]; exact Nat.le_refl _), by rw [len_bytes]; exact hge, hcm, hcs, ?_⟩
  unfold Lib.bytesCells Lib.byteCells
  rw [Array.toList_append, List.take_append_of_le_length (by simp)]
  rw [List.take_of_length_le (by simp)]
  simp
section
variable {P : Program}
theorem run_append_M (w : World) (base : Nat) (t u ty e : TypeId) (i : TypeInfo) (ht : P.underlying t = some (.slice e)) (hu : P.underlying u = some .string) (hi : P.info? e = some i) (hz : i.zero = some (.int .u8 0))
    (hsize : i.size = 1) (hby : i.bytes = 1) (v : Value) (l : List UInt8) (hown : ownM w base e v l) (s : ByteArray)
    (h63 : l.length + s.size ≤ maxLen) (hbytes : l.length + s.size ≤ 140737488355328) (hbase : base ≤ w.heap.size) :
    ∃ v' w', (Builtin.append_ #[t, u] ty #[v, .string s]).run P w = .ok v' w' ∧ ownM w' base e v' (l ++ s.data.toList) ∧ w.grownBy w' v.ownBlock := by
  have hcell := hown.cell
  obtain ⟨g, cap, cur, fz, rfl, hbg, hg, hfz, hnc, hcm, hcs, htake⟩ := hown
  have hsmall : l.length + s.size ≤ 9223372036854775807 := by simp only [maxLen] at h63; omega
  have hll : (l ++ s.data.toList).length = l.length + s.size := by rw [List.length_append, len_bytes]
  have hsc : Lib.strCells s = Lib.byteCells s.data.toList := rfl
  by_cases hroom : l.length + s.size ≤ cap
  · have hf := Lib.run_firstCells_string (P := P) w 1 s
    have hst := storeCells_G P g l.length e fz (Lib.strCells s) 0 cur w hg (by rw [Nat.add_zero, hcs]; exact hfz) (by rw [Lib.strCells_length, hcs]; omega) (Lib.strCells_oneCell s)
    simp only [Nat.add_zero, Lib.strCells_length] at hst
    have hr : (Builtin.append_ #[t, u] ty #[.slice (some ⟨g, 0, none⟩) l.length cap, .string s]).run P w =
        .ok (.slice (some ⟨g, 0, none⟩) (l.length + s.size) cap) (w.setRow g (cur.toList.take l.length ++ Lib.strCells s ++ cur.toList.drop (l.length + s.size)).toArray) := by
      simp [Builtin.append_, run_underlying ht, run_underlying hu, sizeOf, typeInfo, hi, hsize, Builtin.lenOf, hroom, hf, Addr.add_lit, hst]
    refine ⟨_, _, hr, ⟨g, cap, _, fz, by rw [hll], hbg, setRow_heap w g cur _ e _ hg, by rw [hll]; omega, by rw [hll]; exact hroom, hcm, ?_, ?_⟩, ⟨rfl, rfl, rfl, by simp, fun k _ hk => setRow_other w g k _ (fun e => hk (by simp [Value.ownBlock, e]))⟩⟩
    · simp only [List.size_toArray, List.length_append, List.length_take, List.length_drop, Array.length_toList, Lib.strCells_length]
      omega
    · rw [htake, hsc]
      have h2 : Lib.byteCells (l ++ s.data.toList) = Lib.byteCells l ++ Lib.byteCells s.data.toList := by unfold Lib.byteCells; rw [List.map_append]
      rw [h2]
      have h3 : (Lib.byteCells l ++ Lib.byteCells s.data.toList).length = (l ++ s.data.toList).length := by rw [← h2, Lib.byteCells_length]
      rw [← h3]
      exact List.take_left
  · obtain ⟨g', cap', hv', hc'⟩ := hcell
    simp only [Value.slice.injEq, Option.some.injEq, Addr.mk.injEq] at hv'
    obtain ⟨⟨rfl, _, _⟩, _, rfl⟩ := hv'
    have holds : ∀ j u, (Lib.byteCells l)[j]? = some u → w.cell? ((⟨g, 0, none⟩ : Addr).add j) = some u := by
      intro j u hu
      unfold Lib.byteCells at hu
      rw [List.getElem?_map] at hu
      obtain ⟨b, hb, rfl⟩ := Option.map_eq_some_iff.1 hu
      obtain ⟨hj, rfl⟩ := List.getElem?_eq_some_iff.1 hb
      exact hc' j hj
    have hr := Lib.run_append_grow_string (P := P) w t u ty e i (.int .u8 0) ht hu hi hz ⟨g, 0, none⟩ l.length cap (Lib.byteCells l) (by rw [hsize, Lib.byteCells_length]; omega) holds s (by omega) (by omega) (by rw [hby]; exact growslice_fits (by omega) (by omega))
    have hge := grownCap_ge w (l.length + s.size) cap e
    have hcm2 : grownCap w (l.length + s.size) cap e ≤ maxLen := grownCap_le_maxLen w (l.length + s.size) cap e h63
    refine ⟨_, _, hr, ⟨w.heap.size, _, _, (0, 0), by rw [hll], hbase, heap_alloc_new w.drew _, Or.inl (Nat.zero_le _), by rw [hll]; exact hge, hcm2, ?_, ?_⟩, ⟨rfl, rfl, rfl, by simp, fun k hk _ => heap_alloc_old w.drew _ hk⟩⟩
    · have hz1 : (Value.int IntKind.u8 0).cells.size = 1 := rfl
      simp only [Array.size_append, List.size_toArray, size_zeroCells, hz1, Lib.byteCells_length, Lib.strCells_length]
      omega
    · rw [hsc]
      have h2 : Lib.byteCells (l ++ s.data.toList) = Lib.byteCells l ++ Lib.byteCells s.data.toList := by unfold Lib.byteCells; rw [List.map_append]
      rw [h2]
      have h3 : (Lib.byteCells l ++ Lib.byteCells s.data.toList).length = (l ++ s.data.toList).length := by rw [← h2, Lib.byteCells_length]
      simp only [Array.toList_append]
      rw [← h3]
      exact List.take_left
theorem step_append_M {w : World} {ops : Array Oper} {o : Oper} {a : Act} {K : Act → World → Prop} {Q : Exit → Act → World → Prop} {E : Prop} (hgd : o.guard = none) (sl x : Operand) (t u : TypeId)
    (ho : o.op = .call { callee := .builtin .append, args := #[sl, x], argTypes := #[t, u] }) (base : Nat) (e : TypeId) (i : TypeInfo) (ht : P.underlying t = some (.slice e)) (hu : P.underlying u = some .string) (hi : P.info? e = some i) (hz : i.zero = some (.int .u8 0))
    (hsize : i.size = 1) (hby : i.bytes = 1) (v : Value) (l : List UInt8) (hs : a.eval sl = v) (hown : ownM w base e v l) (s : ByteArray) (hx : a.eval x = .string s)
    (h63 : l.length + s.size ≤ maxLen) (hbytes : l.length + s.size ≤ 140737488355328) (hbase : base ≤ w.heap.size)
    (h : ∀ v' w', ownM w' base e v' (l ++ s.data.toList) → w.grownBy w' v.ownBlock → K (a.put o.dst v') w') : if Region.wanted o (yielded ops a.tmps) = true then Oper.wp P o a w K Q else E := by
  have hw : Region.wanted o (yielded ops a.tmps) = true := by simp [Region.wanted, hgd]
  rw [if_pos hw]
  obtain ⟨v', w', hrun, h2, h3⟩ := run_append_M (P := P) w base t u o.type e i ht hu hi hz hsize hby v l hown s h63 hbytes hbase
  unfold Oper.wp execOp
  simp only [ho, resolve, invoke, builtin, Sem.run_bind, Sem.run_pure, Result.andThen_ok, List.map_toArray, List.map_cons, List.map_nil, hs, hx, hrun]
  exact h v' w' h2 h3
end
end Go.Proofs.YtmpfnkheohlmiaaGreatDoor
namespace Go.Proofs.YtmpfnkheohlmiaaGreatDoor
open Go.RowKit
set_option maxRecDepth 100000
set_option linter.unusedVariables false
set_option linter.unusedSimpArgs false
set_option linter.unnecessarySimpa false

def kindWordsL : List (List UInt8) := [[], [116, 101, 120, 116], [110, 117, 109, 98, 101, 114]]
/-- the table of the words for kinds -/
def Kinds (w : World) : Prop := w.var? Tryz.prog "loop.example/g01012/impl.kindWords" = some (kindWordsL.map fun l => Value.string ⟨l.toArray⟩).toArray
theorem Kinds.kept {w w' : World} (h : Kinds w) (hb : Below w.heap.size w w') : Kinds w' := var_kept h hb
theorem kinds_datum : (Rows.laid_loop_example_g01012_impl_kindWords : DataW Unit) = .agg (kindWordsL.map fun l => .lit (.string l)) := by rfl
theorem kinds_of {W : World} {l : List (String × DataW Unit)} (hL : laidMet Tryz.prog l W) (hm : ("loop.example/g01012/impl.kindWords", (Rows.laid_loop_example_g01012_impl_kindWords : DataW Unit)) ∈ l) : Kinds W := by
  rw [kinds_datum] at hm
  obtain ⟨g', t', cs, fuel, p, hg', ht', hvar, hd⟩ := Lib.laidMet.reads hL hm
  obtain rfl : 0 = g' := Option.some.inj ((show Tryz.prog.globalNamed "loop.example/g01012/impl.kindWords" = some 0 by kernel_rfl).symm.trans hg')
  obtain rfl : 83 = t' := Option.some.inj ((show (Tryz.prog.globals[0]?).map (·.type) = some 83 by kernel_rfl).symm.trans ht')
  unfold Kinds
  rw [hvar, ← texts_of_tab Tryz.underlying83 Tryz.underlying9 (by kernel_rfl) (by kernel_rfl) hd]
theorem Kinds.at {w : World} (h : Kinds w) {k : Nat} (hk : k < 3) : w.cell? ⟨0, k, none⟩ = some (.string ⟨(kindWordsL.getD k []).toArray⟩) := by
  have h1 := World.var?_cell (show Tryz.prog.globalNamed "loop.example/g01012/impl.kindWords" = some 0 by kernel_rfl) h k
  rw [h1]
  have : k = 0 ∨ k = 1 ∨ k = 2 := by omega
  rcases this with rfl | rfl | rfl <;> rfl
theorem kind_word {x : Itm} (h : x.kind = 1 ∨ x.kind = 2) : ∃ k : Nat, x.kind = (k : Int) ∧ k < 3 ∧ (kindWordsL.getD k []) = kindL x.kind := by
  rcases h with h | h
  · exact ⟨1, by rw [h]; rfl, by omega, by rw [h]; rfl⟩
  · exact ⟨2, by rw [h]; rfl, by omega, by rw [h]; rfl⟩
theorem line_text (wd : Int) (xs : List Itm) (k : Nat) (x : Itm) : (⟨(layUp wd xs k).toArray⟩ : ByteArray) ++ (x.name ++ ⟨#[32]⟩ ++ ⟨(kindL x.kind).toArray⟩ ++ ⟨#[32]⟩ ++ ⟨(Lib.itoa x.fr).toArray⟩ ++ ⟨#[45]⟩ ++ ⟨(Lib.itoa x.to).toArray⟩ ++ ⟨#[10]⟩) = ⟨(layUp wd xs k ++ lineL x).toArray⟩ := by
  apply ByteArray.ext
  simp only [ByteArray.data_append]
  unfold lineL
  apply Array.toList_inj.1
  simp
theorem head_text (wd : Int) : (⟨#[119, 105, 100, 116, 104, 32]⟩ : ByteArray) ++ ⟨(Lib.itoa wd).toArray⟩ ++ ⟨#[10]⟩ = ⟨(headL wd).toArray⟩ := by
  apply ByteArray.ext
  simp only [ByteArray.data_append]
  unfold headL
  apply Array.toList_inj.1
  simp
set_option maxHeartbeats 4000000 in
theorem impl_LayoutText (wd : Int) (a : Option Addr) (c : Nat) (xs : List Itm) (w : World) (hx : RT w a xs) (hn : itemsSz xs ≤ 1048576) (hcap : xs.length ≤ c) (ht : Lib.TabIs Tryz.prog w "internal/strconv.uint64pow10" .u64 Lib.pow10Tab) (hK : Kinds w) :
    Calls Tryz.prog 12 #[.agg #[.int .i64 wd, .slice a xs.length c]] w fun e w' => e = .returned (.string (layoutText wd xs)) ∧ Below w.heap.size w w' := by
  have hb1 := Lib.hid (below_alloc (w := w) (.cells #[.int .i64 wd, .slice a xs.length c] 26))
  have hval := Lib.hid (fun (W : World) (hb : Below w.heap.size w W) => impl_ValidLayout wd a c xs W (hx.kept hb) hn hcap)
  cases hvl : validLayB wd xs
  · have hf := Lib.hid (lt_no hvl)
    rw [hvl] at hval
    go_enter Tryz.func12, Tryz.ntmps12
    go_wp2_with fail
    refine (hval.out _ hb1.out).mono ?_
    rintro e w2 ⟨rfl, hb⟩
    have hB2 := Lib.hid (bthen hb1.out hb)
    clear hb
    go_wp2_with fail
    go_ret
    exact ⟨ret_str (by rw [hf.out]), hB2.out⟩
  rw [hvl] at hval
  obtain ⟨w1_, w2_, w3_, _⟩ := validLay_is hvl
  have hf := Lib.hid (lt_yes hvl)
  have hit := Lib.hid (fun (x : Itm) (hxm : x ∈ xs) => validLay_item hvl hxm)
  have hul := Lib.hid (fun k hk => layUp_len hvl k hk)
  have hxs := Lib.hid hx
  have hdec := Lib.hid (fun (n : Int) (h0 : -1 ≤ n) (h1 : n ≤ 20) (W : World) (hb : Below w.heap.size w W) => impl_Decimal n W (by omega) (by omega) (TabIs.kept ht hb))
  have hxl := itemsSz_len xs
  have hwl := Lib.itoa_length_le wd (by omega) (by omega)
  have hl1 : ¬ 9223372036854775807 < 6 + (Lib.itoa wd).length := by omega
  have hl2 : ¬ 9223372036854775807 < 6 + (Lib.itoa wd).length + 1 := by omega
  clear hvl hx
  go_enter Tryz.func12, Tryz.ntmps12
  go_wp2_with fail
  refine (hval.out _ hb1.out).mono ?_
  rintro e w2 ⟨rfl, hb⟩
  (have hc0 := keep (p := ⟨w.heap.size, 0, none⟩) (v := .int .i64 wd) hb (by simp [go_sem, *]); have hf0 := keepf (p := ⟨w.heap.size, 0, none⟩) (v := .int .i64 wd) hb (by simp [go_sem, *]) (by simp [go_sem, *]); have hl0 := World.block_lt_of_cell? _ _ hc0; have hc1 := keep (p := ⟨w.heap.size, 1, none⟩) (v := .slice a xs.length c) hb (by simp [go_sem, *]); have hf1 := keepf (p := ⟨w.heap.size, 1, none⟩) (v := .slice a xs.length c) hb (by simp [go_sem, *]) (by simp [go_sem, *]); have hl1 := World.block_lt_of_cell? _ _ hc1)
  have hB2 := Lib.hid (bthen hb1.out hb)
  clear hb
  go_wp2_with fail
  refine (hdec.out wd (by omega) (by omega) _ hB2.out).mono ?_
  rintro e w3 ⟨rfl, hb⟩
  have y1 := keep hb hc1
  have hB3 := Lib.hid (bthen hB2.out hb)
  have hHd := Lib.hid (head_text wd)
  clear hb hc0 hc1 hf0 hf1 hl0 hl1
  go_wp2_with fail
  go_loopw [3, 17] (fun v i wr => ∃ (k : Nat) (T : ByteArray), k ≤ xs.length ∧ i = .int .i64 k ∧ v = .string T ∧ Hid (T = ⟨(layUp wd xs k).toArray⟩) ∧ Below w3.heap.size w3 wr) (fun _ i _ => xs.length - (intOf i).toNat)
  case atStart => exact ⟨0, _, by omega, rfl, rfl, Lib.hid (by rw [hHd.out, layUp_zero]), Below.refl _ _⟩
  case round =>
    obtain ⟨k, T, hk, rfl, rfl, hT, hb⟩ := hrel
    have z1 := keep hb y1
    have hBr := Lib.hid (bthen hB3.out hb)
    have hbk := Lib.hid hb
    clear hb
    by_cases hlt : k < xs.length
    · have hlt' : (k : Int) < (xs.length : Int) := by omega
      obtain ⟨x, hxk⟩ := get_some (l := xs) (k := k) hlt
      obtain ⟨b1, o1, rfl, q0, q1, q2, q3⟩ := (hxs.out.kept hBr.out).at hxk
      have hitx := hit.out x (List.mem_of_getElem? hxk)
      obtain ⟨f1, f2, f3⟩ := itemB_field hitx
      have hnm := item_name hitx
      obtain ⟨kk, hkk, hk3, hkw⟩ := kind_word (item_kind hitx)
      have hkl := kindL_len x.kind
      have hgc := hK.kept hBr.out |>.at hk3
      rw [hkw] at hgc
      rw [hkk] at q1
      have hkk3 : (kk : Int) < 3 := by omega
      have hTl := hul.out k hk
      have hsz : T.size ≤ 28 + 64 * k := by rw [hT.out, ba_size]; exact hTl
      have hnx := Lib.hid (show T ++ (x.name ++ ⟨#[32]⟩ ++ ⟨(kindL x.kind).toArray⟩ ++ ⟨#[32]⟩ ++ ⟨(Lib.itoa x.fr).toArray⟩ ++ ⟨#[45]⟩ ++ ⟨(Lib.itoa x.to).toArray⟩ ++ ⟨#[10]⟩) = ⟨(layUp wd xs (k + 1)).toArray⟩ by rw [hT.out, layUp_succ hxk]; exact line_text wd xs k x)
      have hdf := Lib.hid (hdec.out x.fr (by omega) (by omega))
      have hdt := Lib.hid (hdec.out x.to (by omega) (by omega))
      have hF := Lib.itoa_length_le x.fr (by omega) (by omega)
      have hG := Lib.itoa_length_le x.to (by omega) (by omega)
      rw [← ba_size] at hF hG
      rw [← ba_size] at hkl
      clear hxk hitx hkk hk3 hkw hTl
      generalize (⟨(Lib.itoa x.fr).toArray⟩ : ByteArray) = F at *
      generalize (⟨(Lib.itoa x.to).toArray⟩ : ByteArray) = G at *
      generalize (⟨(kindL x.kind).toArray⟩ : ByteArray) = KW at *
      obtain ⟨nm, kd, f, t⟩ := x
      simp only at q0 q2 q3 f1 f2 f3 hnm hdf hdt hnx
      have g1 : ¬ 9223372036854775807 < nm.size + 1 := by omega
      have g2 : ¬ 9223372036854775807 < nm.size + 1 + KW.size := by omega
      have g3 : ¬ 9223372036854775807 < nm.size + 1 + KW.size + 1 := by omega
      have g4 : ¬ 9223372036854775807 < nm.size + 1 + KW.size + 1 + F.size := by omega
      have g5 : ¬ 9223372036854775807 < nm.size + 1 + KW.size + 1 + F.size + 1 := by omega
      have g6 : ¬ 9223372036854775807 < nm.size + 1 + KW.size + 1 + F.size + 1 + G.size := by omega
      have g7 : ¬ 9223372036854775807 < nm.size + 1 + KW.size + 1 + F.size + 1 + G.size + 1 := by omega
      have g8 : ¬ 9223372036854775807 < T.size + (nm.size + 1 + KW.size + 1 + F.size + 1 + G.size + 1) := by omega
      have hba := below_alloc (w := wr) (.cells #[.string nm, .int .i64 kk, .int .i64 f, .int .i64 t] 63)
      have c0 : (wr.alloc (.cells #[.string nm, .int .i64 kk, .int .i64 f, .int .i64 t] 63)).cell? ⟨wr.heap.size, 0, none⟩ = some (.string nm) := by simp [go_sem]
      have c1 : (wr.alloc (.cells #[.string nm, .int .i64 kk, .int .i64 f, .int .i64 t] 63)).cell? ⟨wr.heap.size, 1, none⟩ = some (.int .i64 kk) := by simp [go_sem]
      have c2 : (wr.alloc (.cells #[.string nm, .int .i64 kk, .int .i64 f, .int .i64 t] 63)).cell? ⟨wr.heap.size, 2, none⟩ = some (.int .i64 f) := by simp [go_sem]
      have c3 : (wr.alloc (.cells #[.string nm, .int .i64 kk, .int .i64 f, .int .i64 t] 63)).cell? ⟨wr.heap.size, 3, none⟩ = some (.int .i64 t) := by simp [go_sem]
      have cg := keep hba hgc
      have hBs := Lib.hid (bthen hBr.out hba)
      have hb' := Lib.hid (bthen hbk.out hba)
      clear hba hgc
      go_wp2_with fail
      generalize hW : (wr.alloc (.cells #[.string nm, .int .i64 kk, .int .i64 f, .int .i64 t] 63)) = wz at *
      (first | go_region_held3 (fun W => Below wz.heap.size wz W ∧ W.cell? ⟨wr.heap.size, 0, none⟩ = some (.string nm) ∧ W.cell? ⟨wr.heap.size, 1, none⟩ = some (.int .i64 kk) ∧ W.cell? ⟨wr.heap.size, 2, none⟩ = some (.int .i64 f) ∧ W.cell? ⟨wr.heap.size, 3, none⟩ = some (.int .i64 t) ∧ W.cell? ⟨0, kk, none⟩ = some (.string KW)) (first | exact held5 (below_drewN (Below.refl _ _) 1) c0 c1 c2 c3 cg | (rename Below wz.heap.size wz _ ∧ _ => hH; refine held5 ?_ c0 c1 c2 c3 cg; (refine bthen hH.1 ?_; assumption))) (first | (go_at_call 44; ((with_reducible refine (hdf.out _ (bthen hBs.out (And.left ‹Below wz.heap.size wz _ ∧ _›))).mono ?_); rintro e wq0 ⟨rfl, hbq⟩)) | (go_at_call 44; ((with_reducible refine (hdt.out _ (bthen hBs.out (And.left ‹Below wz.heap.size wz _ ∧ _›))).mono ?_); rintro e wq1 ⟨rfl, hbq⟩))) | fail)
      all_goals
        have hHb := And.left ‹Below wz.heap.size wz _ ∧ _›
        clear hW
        go_wp2_with fail
        go_roundw
        case rel => exact ⟨k + 1, _, by omega, by go_num, rfl, hnx, bthen hb'.out hHb⟩
        case measure => simp [intOf]; omega
    · obtain rfl : k = xs.length := by omega
      go_wp2_with fail
      go_ret
      exact ⟨ret_str (by rw [hf.out, hT.out]), hBr.out⟩
theorem info_u8 : (Tryz.prog.info? 5).map (fun i => (i.zero, i.size, i.bytes)) = some (some (.int .u8 0), 1, 1) := by kernel_rfl
theorem line_bytes (wd : Int) (xs : List Itm) (k : Nat) (x : Itm) : (x.name ++ ⟨#[32]⟩ ++ ⟨(kindL x.kind).toArray⟩ ++ ⟨#[32]⟩ ++ ⟨(Lib.itoa x.fr).toArray⟩ ++ ⟨#[45]⟩ ++ ⟨(Lib.itoa x.to).toArray⟩ ++ ⟨#[10]⟩ : ByteArray).data.toList = lineL x := by
  simp only [ByteArray.data_append]
  unfold lineL
  simp
set_option maxHeartbeats 4000000 in
theorem spec_l04Text (B : Nat) (wd : Int) (a : Option Addr) (c : Nat) (xs : List Itm) (w : World) (hca : w.cell? ⟨B, 0, none⟩ = some (.int .i64 wd)) (hcb : w.cell? ⟨B, 1, none⟩ = some (.slice a xs.length c)) (hx : RT w a xs) (hvl : validLayB wd xs = true) :
    Calls Tryz.prog 50 #[.pointer (some ⟨B, 0, none⟩)] w fun e w' => e = .returned (.string ⟨(layUp wd xs xs.length).toArray⟩) ∧ Below w.heap.size w w' := by
  obtain ⟨w1_, w2_, w3_, _⟩ := validLay_is hvl
  have hit := Lib.hid (fun (x : Itm) (hxm : x ∈ xs) => validLay_item hvl hxm)
  have hul := Lib.hid (fun k hk => layUp_len hvl k hk)
  have hxs := Lib.hid hx
  have hwl := Lib.itoa_length_le wd (by omega) (by omega)
  have hl1 : ¬ 9223372036854775807 < 6 + (Lib.itoa wd).length := by omega
  have hl2 : ¬ 9223372036854775807 < 6 + (Lib.itoa wd).length + 1 := by omega
  obtain ⟨H0, hH0⟩ : ∃ H0 : ByteArray, (⟨#[119, 105, 100, 116, 104, 32]⟩ : ByteArray) ++ ⟨(Lib.itoa wd).toArray⟩ ++ ⟨#[10]⟩ = H0 := ⟨_, rfl⟩
  have hHd := Lib.hid (show H0 = ⟨(headL wd).toArray⟩ from hH0.symm.trans (head_text wd))
  have hHl := Lib.hid (show H0.data.toList = layUp wd xs 0 by rw [hHd.out, layUp_zero])
  have hHs : H0.size ≤ 28 := by
    have := hul.out 0 (by omega)
    rw [← hHl.out, len_bytes] at this; omega
  have hcv := fun (W : World) (s : ByteArray) => Lib.run_convert_string_bytes (P := Tryz.prog) W 9 22 5 s Tryz.underlying9 Tryz.underlying22 Tryz.underlying5
  obtain ⟨i0, hi, hz0, hz1, hz2⟩ := info_parts info_u8
  clear hvl hx
  go_enter Tryz.func50, Tryz.ntmps50
  go_wp2_with fail
  refine (spec_l01Dec wd _ (by omega) (by omega)).mono ?_
  rintro e w2 ⟨rfl, hb⟩
  have hM := Lib.hid (ownM_conv w2 5 H0 (by unfold maxLen; omega))
  rw [hHl.out] at hM
  have hbw := Lib.hid (Lib.bytesWorld_below w2 5 H0)
  go_wp2_with fail
  -- LOOP
  go_loopw [3, 4] (fun v i wr => ∃ k : Nat, k ≤ xs.length ∧ i = .int .i64 k ∧ Hid (ownM wr w2.heap.size 5 v (layUp wd xs k)) ∧ Hid (Below w2.heap.size w2 wr)) (fun _ i _ => xs.length - (intOf i).toNat)
  case atStart => exact ⟨0, by omega, rfl, by first | exact hM | (have hl := len_bytes H0; rw [hHl.out] at hl; rw [← hl]; exact hM), Lib.hid hbw.out⟩
  case round =>
    obtain ⟨k, hk, rfl, hM, hbl⟩ := hrel
    have hBr := Lib.hid (bthen hb hbl.out)
    have z0 := keep hBr.out hca
    have z1 := keep hBr.out hcb
    have hwr := Lib.hid (hbl.out.size)
    by_cases hlt : k < xs.length
    · have hlt' : (k : Int) < (xs.length : Int) := by omega
      obtain ⟨x, hxk⟩ := get_some (l := xs) (k := k) hlt
      obtain ⟨b1, o1, rfl, p0, p1, p2, p3⟩ := hxs.out.at hxk
      have hb1 : b1 < w.heap.size := World.block_lt_of_cell? _ _ p0
      have hw2 := hb.size
      have q0 := keep hBr.out p0
      have q1 := keep hBr.out p1
      have q2 := keep hBr.out p2
      have q3 := keep hBr.out p3
      have hitx := hit.out x (List.mem_of_getElem? hxk)
      obtain ⟨f1, f2, f3⟩ := itemB_field hitx
      have hnm := item_name hitx
      have hkd := item_kind hitx
      have hTl := hul.out k hk
      have hnx := Lib.hid (show layUp wd xs k ++ (x.name ++ ⟨#[32]⟩ ++ ⟨(kindL x.kind).toArray⟩ ++ ⟨#[32]⟩ ++ ⟨(Lib.itoa x.fr).toArray⟩ ++ ⟨#[45]⟩ ++ ⟨(Lib.itoa x.to).toArray⟩ ++ ⟨#[10]⟩ : ByteArray).data.toList = layUp wd xs (k + 1) by rw [line_bytes wd xs k x, layUp_succ hxk])
      have hdf := Lib.hid (fun W => spec_l01Dec x.fr W (by omega) (by omega))
      have hdt := Lib.hid (fun W => spec_l01Dec x.to W (by omega) (by omega))
      have hF := Lib.itoa_length_le x.fr (by omega) (by omega)
      have hG := Lib.itoa_length_le x.to (by omega) (by omega)
      rw [← ba_size] at hF hG
      clear hxk hitx p0 p1 p2 p3
      generalize (⟨(Lib.itoa x.fr).toArray⟩ : ByteArray) = F at *
      generalize (⟨(Lib.itoa x.to).toArray⟩ : ByteArray) = G at *
      obtain ⟨nm, kd, f, t⟩ := x
      simp only at q0 q1 q2 q3 f1 f2 f3 hnm hdf hdt hnx hkd
      have g1 : ¬ 9223372036854775807 < nm.size + 1 := by omega
      have hS := Lib.hid (fun (V : World) (hV : Below w2.heap.size wr V) => (And.intro hV (And.intro (heldB hV (by omega) q0) (And.intro (heldB hV (by omega) q2) (heldB hV (by omega) q3)))))
      have hSt := Lib.hid (fun (V V' : World) (hV : Below w2.heap.size wr V) (hV' : Below V.heap.size V V') => (hV.trans (hV'.mono (Nat.le_trans hwr.out hV.size)) : Below w2.heap.size wr V'))
      rcases hkd with hkd | hkd
      · obtain rfl : kd = 1 := hkd
        have hkw : (⟨(kindL 1).toArray⟩ : ByteArray) = ⟨#[116, 101, 120, 116]⟩ := rfl
        rw [hkw] at hnx
        have g2 : ¬ 9223372036854775807 < nm.size + 1 + 4 := by omega
        have g3 : ¬ 9223372036854775807 < nm.size + 1 + 4 + 1 := by omega
        have g4 : ¬ 9223372036854775807 < nm.size + 1 + 4 + 1 + F.size := by omega
        have g5 : ¬ 9223372036854775807 < nm.size + 1 + 4 + 1 + F.size + 1 := by omega
        have g6 : ¬ 9223372036854775807 < nm.size + 1 + 4 + 1 + F.size + 1 + G.size := by omega
        have g7 : ¬ 9223372036854775807 < nm.size + 1 + 4 + 1 + F.size + 1 + G.size + 1 := by omega
        obtain ⟨X, hX⟩ : ∃ X : ByteArray, X = nm ++ ⟨#[32]⟩ ++ ⟨#[116, 101, 120, 116]⟩ ++ ⟨#[32]⟩ ++ F ++ ⟨#[45]⟩ ++ G ++ ⟨#[10]⟩ := ⟨_, rfl⟩
        have hXs : X.size ≤ 128 := by
          have e1 : (⟨#[32]⟩ : ByteArray).size = 1 := rfl
          have e2 : (⟨#[45]⟩ : ByteArray).size = 1 := rfl
          have e3 : (⟨#[10]⟩ : ByteArray).size = 1 := rfl
          have e4 : (⟨#[116, 101, 120, 116]⟩ : ByteArray).size = 4 := rfl
          rw [hX]; simp only [ByteArray.size_append]; omega
        have hm1 := Lib.hid (show (layUp wd xs k).length + X.size ≤ maxLen by unfold maxLen; omega)
        have hm2 := Lib.hid (show (layUp wd xs k).length + X.size ≤ 140737488355328 by omega)
        have hXl := Lib.hid (show layUp wd xs k ++ X.data.toList = layUp wd xs (k + 1) by rw [hX]; exact hnx.out)
        have hX' := Lib.hid hX
        clear hX hXs hnx hkw
        go_wp2_with fail
        (first | go_region_held3 (fun V => Below w2.heap.size wr V ∧ V.cell? ⟨b1, o1 + k * 4, none⟩ = some (.string nm) ∧ V.cell? ⟨b1, o1 + k * 4 + 2, none⟩ = some (.int .i64 f) ∧ V.cell? ⟨b1, o1 + k * 4 + 3, none⟩ = some (.int .i64 t)) (first | exact hS.out _ (below_drewN (Below.refl _ _) 1) | (refine hS.out _ ?_; assumption)) (first | (go_at_call 70; ((with_reducible refine (hdf.out _).mono ?_); rintro e wq0 ⟨rfl, hbq0⟩; have hq0 := hSt.out _ _ (And.left ‹Below w2.heap.size wr _ ∧ _›) hbq0; have hk0 := Lib.hid (hbq0))) | (go_at_call 70; ((with_reducible refine (hdt.out _).mono ?_); rintro e wq1 ⟨rfl, hbq1⟩; have hq1 := hSt.out _ _ (And.left ‹Below w2.heap.size wr _ ∧ _›) hbq1; have hk1 := Lib.hid (hbq1))) | (refine step_append_M rfl _ _ 22 9 rfl w2.heap.size 5 i0 Tryz.underlying22 Tryz.underlying9 hi hz0 hz1 hz2 u3 (layUp wd xs k) rfl (by first | exact (hM.out.kept (below_drewN (Below.refl _ _) 1)) | exact hM.out.kept (bthen (below_drewN (Below.refl wr.heap.size wr) 1) (bthen hk0.out hk1.out)) | exact hM.out.kept (bthen (below_drewN (Below.refl wr.heap.size wr) 1) (bthen hk1.out hk0.out))) X (by first | rfl | (rw [hX'.out]; rfl)) hm1.out hm2.out (Nat.le_trans hwr.out (And.left ‹Below w2.heap.size wr _ ∧ _›).size) ?_; intro v5 w5 hown5 hg5; have hq5 : Below w2.heap.size wr w5 := (And.left ‹Below w2.heap.size wr _ ∧ _›).grown hg5 (Nat.le_trans hwr.out (And.left ‹Below w2.heap.size wr _ ∧ _›).size) (fun k hk => (hM.out.lt k hk).1); rw [hXl.out] at hown5; have ho5 := Lib.hid hown5; clear hown5 hg5)) | fail)
        all_goals
          go_wp2_with fail
          go_roundw
          case rel => exact ⟨k + 1, by omega, by go_num, ho5, Lib.hid (hbl.out.trans hq5)⟩
          case measure => simp [intOf]; omega
      · obtain rfl : kd = 2 := hkd
        have hkw : (⟨(kindL 2).toArray⟩ : ByteArray) = ⟨#[110, 117, 109, 98, 101, 114]⟩ := rfl
        rw [hkw] at hnx
        have g2 : ¬ 9223372036854775807 < nm.size + 1 + 6 := by omega
        have g3 : ¬ 9223372036854775807 < nm.size + 1 + 6 + 1 := by omega
        have g4 : ¬ 9223372036854775807 < nm.size + 1 + 6 + 1 + F.size := by omega
        have g5 : ¬ 9223372036854775807 < nm.size + 1 + 6 + 1 + F.size + 1 := by omega
        have g6 : ¬ 9223372036854775807 < nm.size + 1 + 6 + 1 + F.size + 1 + G.size := by omega
        have g7 : ¬ 9223372036854775807 < nm.size + 1 + 6 + 1 + F.size + 1 + G.size + 1 := by omega
        obtain ⟨X, hX⟩ : ∃ X : ByteArray, X = nm ++ ⟨#[32]⟩ ++ ⟨#[110, 117, 109, 98, 101, 114]⟩ ++ ⟨#[32]⟩ ++ F ++ ⟨#[45]⟩ ++ G ++ ⟨#[10]⟩ := ⟨_, rfl⟩
        have hXs : X.size ≤ 128 := by
          have e1 : (⟨#[32]⟩ : ByteArray).size = 1 := rfl
          have e2 : (⟨#[45]⟩ : ByteArray).size = 1 := rfl
          have e3 : (⟨#[10]⟩ : ByteArray).size = 1 := rfl
          have e4 : (⟨#[110, 117, 109, 98, 101, 114]⟩ : ByteArray).size = 6 := rfl
          rw [hX]; simp only [ByteArray.size_append]; omega
        have hm1 := Lib.hid (show (layUp wd xs k).length + X.size ≤ maxLen by unfold maxLen; omega)
        have hm2 := Lib.hid (show (layUp wd xs k).length + X.size ≤ 140737488355328 by omega)
        have hXl := Lib.hid (show layUp wd xs k ++ X.data.toList = layUp wd xs (k + 1) by rw [hX]; exact hnx.out)
        have hX' := Lib.hid hX
        clear hX hXs hnx hkw
        go_wp2_with fail
        (first | go_region_held3 (fun V => Below w2.heap.size wr V ∧ V.cell? ⟨b1, o1 + k * 4, none⟩ = some (.string nm) ∧ V.cell? ⟨b1, o1 + k * 4 + 2, none⟩ = some (.int .i64 f) ∧ V.cell? ⟨b1, o1 + k * 4 + 3, none⟩ = some (.int .i64 t)) (first | exact hS.out _ (below_drewN (Below.refl _ _) 1) | (refine hS.out _ ?_; assumption)) (first | (go_at_call 70; ((with_reducible refine (hdf.out _).mono ?_); rintro e wq0 ⟨rfl, hbq0⟩; have hq0 := hSt.out _ _ (And.left ‹Below w2.heap.size wr _ ∧ _›) hbq0; have hk0 := Lib.hid (hbq0))) | (go_at_call 70; ((with_reducible refine (hdt.out _).mono ?_); rintro e wq1 ⟨rfl, hbq1⟩; have hq1 := hSt.out _ _ (And.left ‹Below w2.heap.size wr _ ∧ _›) hbq1; have hk1 := Lib.hid (hbq1))) | (refine step_append_M rfl _ _ 22 9 rfl w2.heap.size 5 i0 Tryz.underlying22 Tryz.underlying9 hi hz0 hz1 hz2 u3 (layUp wd xs k) rfl (by first | exact (hM.out.kept (below_drewN (Below.refl _ _) 1)) | exact hM.out.kept (bthen (below_drewN (Below.refl wr.heap.size wr) 1) (bthen hk0.out hk1.out)) | exact hM.out.kept (bthen (below_drewN (Below.refl wr.heap.size wr) 1) (bthen hk1.out hk0.out))) X (by first | rfl | (rw [hX'.out]; rfl)) hm1.out hm2.out (Nat.le_trans hwr.out (And.left ‹Below w2.heap.size wr _ ∧ _›).size) ?_; intro v5 w5 hown5 hg5; have hq5 : Below w2.heap.size wr w5 := (And.left ‹Below w2.heap.size wr _ ∧ _›).grown hg5 (Nat.le_trans hwr.out (And.left ‹Below w2.heap.size wr _ ∧ _›).size) (fun k hk => (hM.out.lt k hk).1); rw [hXl.out] at hown5; have ho5 := Lib.hid hown5; clear hown5 hg5)) | fail)
        all_goals
          go_wp2_with fail
          go_roundw
          case rel => exact ⟨k + 1, by omega, by go_num, ho5, Lib.hid (hbl.out.trans hq5)⟩
          case measure => simp [intOf]; omega
    · obtain rfl : k = xs.length := by omega
      obtain ⟨g, cap, rfl, hc⟩ := hM.out.cell
      have hback := run_convert_bytes_back (P := Tryz.prog) wr 22 9 5 ⟨g, 0, none⟩ cap (layUp wd xs xs.length) Tryz.underlying22 Tryz.underlying5 Tryz.underlying9 hc
      clear hc
      go_wp2_with fail
      go_ret
      exact ⟨rfl, hBr.out⟩
theorem spec_LayoutText (wd : Int) (a : Option Addr) (c : Nat) (xs : List Itm) (w : World) (hx : RT w a xs) (hn : itemsSz xs ≤ 1048576) (hcap : xs.length ≤ c) :
    Calls Tryz.prog 22 #[.agg #[.int .i64 wd, .slice a xs.length c]] w fun e w' => e = .returned (.string (layoutText wd xs)) ∧ Below w.heap.size w w' := by
  have hb1 := Lib.hid (below_alloc (w := w) (.cells #[.int .i64 wd, .slice a xs.length c] 26))
  have hca : (w.alloc (.cells #[.int .i64 wd, .slice a xs.length c] 26)).cell? ⟨w.heap.size, 0, none⟩ = some (.int .i64 wd) := by simp [go_sem]
  have hcb : (w.alloc (.cells #[.int .i64 wd, .slice a xs.length c] 26)).cell? ⟨w.heap.size, 1, none⟩ = some (.slice a xs.length c) := by simp [go_sem]
  have hval := Lib.hid (spec_l04Ok w.heap.size wd a c xs _ hca hcb (hx.kept hb1.out) hn)
  have htx := Lib.hid (fun (h : validLayB wd xs = true) (W : World) (hb : Below (w.alloc (.cells #[.int .i64 wd, .slice a xs.length c] 26)).heap.size (w.alloc (.cells #[.int .i64 wd, .slice a xs.length c] 26)) W) => spec_l04Text w.heap.size wd a c xs W (keep hb hca) (keep hb hcb) (hx.kept (bthen hb1.out hb)) h)
  clear hca hcb
  cases hvl : validLayB wd xs
  · have hf := Lib.hid (lt_no hvl)
    rw [hvl] at hval
    go_enter Tryz.func22, Tryz.ntmps22
    go_wp2_with fail
    refine hval.out.mono ?_
    rintro e w2 ⟨rfl, hb⟩
    go_wp2_with fail
    go_ret
    exact ⟨ret_str (by rw [hf.out]), bthen hb1.out hb⟩
  · have hf := Lib.hid (lt_yes hvl)
    replace htx := Lib.hid (htx.out hvl)
    rw [hvl] at hval
    go_enter Tryz.func22, Tryz.ntmps22
    go_wp2_with fail
    refine hval.out.mono ?_
    rintro e w2 ⟨rfl, hb⟩
    have hb2 := Lib.hid hb
    clear hb
    go_wp2_with fail
    refine (htx.out _ hb2.out).mono ?_
    rintro e w3 ⟨rfl, hb⟩
    go_wp2_with fail
    go_ret
    exact ⟨ret_str (by rw [hf.out]), bthen (bthen hb1.out hb2.out) hb⟩
theorem powT_kept {w w' : World} (h : Pow10 w) (hb : Below w.heap.size w w') : Pow10 w' := TabIs.kept h hb
end Go.Proofs.YtmpfnkheohlmiaaGreatDoor
