/- FnCards: for all arguments the law returns true, and memory that was there is as it was. No condition. -/
import Derived.Test.YtdjggbccdjbcoaaRows
import Derived.Test.YtdjggbccdjbcoaaOpen
import Derived.Deep.RegionHeld3
import Derived.Deep.CutRange
import Derived.ShutString
import Derived.Test.YtdjggbccdjbcoaaOpenB
import Derived.Test.YtdjggbccdjbcoaaA2
import Derived.Test.YtdjggbccdjbcoaaDraw
import Derived.Test.YtdjggbccdjbcoaaPlainH
import Derived.Test.YtdjggbccdjbcoaaMark
import Derived.Test.YtdjggbccdjbcoaaPict
import Derived.Test.YtdjggbccdjbcoaaRanks
import Derived.Test.YtdjggbccdjbcoaaSame
namespace Go.Proofs.Ytdjggbccdjbcoaa.fnCards
open Go.ChangeShapes Go.WideShapes Go.ChangeAt Go.RowKit
open Go.ChangeMaps (open_string shut_string)
set_option linter.unusedVariables false
set_option linter.unusedSimpArgs false
set_option linter.unnecessarySimpa false
set_option maxRecDepth 100000

theorem own : ownKnob Try.prog.godebug = none := by kernel_rfl
theorem laidOut : laidOutB Try.prog = true := by kernel_rfl

set_option maxHeartbeats 4000000 in
/-- The Go text returns true; memory has at most new blocks. -/
theorem walk (a0 : Option Addr) (c0 : Nat) (x0 : List UInt8) (a1 : Option Addr) (c1 : Nat) (x1 : List UInt8) (w : World) (hx0 : RB w a0 x0) (hm0 : x0.length ≤ maxLen) (hx1 : RB w a1 x1) (hm1 : x1.length ≤ maxLen) :
    Calls Try.prog 7 #[.slice a0 x0.length c0, .slice a1 x1.length c1] w fun e w' => e = .returned (.bool true) ∧ Below w.heap.size w w' := by
  by_cases hlong : 3000 < x0.length ∨ 3000 < x1.length
  · have hc := Lib.hid (laws_a2Long_yes a0 c0 x0.length a1 c1 x1.length w hm0 hm1 hlong)
    go_enter Try.func7, Try.ntmps7
    go_wp2_with (go_at_call 18; ((with_reducible refine hc.out.mono ?_); rintro e w' ⟨rfl, rfl⟩))
    go_ret
    exact ⟨rfl, Below.refl _ _⟩
  have hl0 : x0.length ≤ 3000 := by omega
  have hl1 : x1.length ≤ 3000 := by omega
  have hc := Lib.hid (laws_a2Long_no a0 c0 x0.length a1 c1 x1.length w hl0 hl1)
  clear hlong
  go_enter Try.func7, Try.ntmps7
  go_wp2_with (go_at_call 18; ((with_reducible refine hc.out.mono ?_); rintro e w' ⟨rfl, rfl⟩))
  refine (spec_A2Card a0 c0 x0 _ hx0 (by omega)).mono ?_
  rintro e w1 ⟨a3, c3, xs, rfl, ⟨hn1, hn6⟩, hP, hown, hb⟩
  have hv := Lib.hid (show validCardL xs = true from card_valid hn1 (by omega) hP)
  have hx := Lib.hid (own_RI hown)
  have hP' := Lib.hid hP
  have hB1 := Lib.hid hb
  clear hown hP hb hc
  have ha := below_alloc (w := w1) (.cells #[.slice a3 xs.length c3] 48)
  have hat := Lib.hid (laws_a2At a1 c1 x1 0 xs.length _ (hx1.kept (bthen hB1.out ha)) (by omega) (by omega) (by omega) (by omega))
  have hca : (w1.alloc (.cells #[.slice a3 xs.length c3] 48)).cell? ⟨w1.heap.size, 0, none⟩ = some (.slice a3 xs.length c3) := by simp [go_sem]
  replace hx := Lib.hid (hx.out.kept ha)
  have hB2 := Lib.hid (bthen hB1.out ha)
  clear ha
  go_wp2_with fail
  refine hat.out.mono ?_
  rintro e w2 ⟨⟨r, rfl, r0, r1, _⟩, hw⟩
  clear hat
  rw [hw] at hca hx hB2
  clear hw
  replace r1 := r1 (by omega)
  obtain ⟨k, rfl⟩ := Int.eq_ofNat_of_zero_le r0
  have hk : k < xs.length := by omega
  obtain ⟨x, hxk⟩ := get_some (l := xs) (k := k) hk
  obtain ⟨b3, o3, rfl, hcx⟩ := hx.out.at hxk
  have hxk' := Lib.hid hxk
  clear r0 r1 hxk
  have ha := below_alloc (w := w2) (.cells #[.int .i64 12, .int .i64 11, .int .i64 0, .int .i64 1, .int .i64 2, .int .i64 3, .int .i64 4, .int .i64 5, .int .i64 6, .int .i64 7, .int .i64 8, .int .i64 9] 2)
  have hrows : RI (w2.alloc (.cells #[.int .i64 12, .int .i64 11, .int .i64 0, .int .i64 1, .int .i64 2, .int .i64 3, .int .i64 4, .int .i64 5, .int .i64 6, .int .i64 7, .int .i64 8, .int .i64 9] 2)) (some ⟨w2.heap.size, 0, none⟩) [12, 11, 0, 1, 2, 3, 4, 5, 6, 7, 8, 9] := row_block (heap_alloc_new w2 _)
  have hat := Lib.hid (laws_a2At a1 c1 x1 1 12 _ (hx1.kept (bthen hB2.out ha)) (by omega) (by omega) (by omega) (by omega))
  replace hca := keep ha hca
  replace hcx := keep ha hcx
  replace hx := Lib.hid (hx.out.kept ha)
  replace hB2 := Lib.hid (bthen hB2.out ha)
  clear ha
  go_wp2_with fail
  refine hat.out.mono ?_
  rintro e w3 ⟨⟨q, rfl, q0, q1, _⟩, hw⟩
  clear hat
  rw [hw] at hca hcx hx hB2 hrows
  clear hw
  replace q1 := q1 (by omega)
  obtain ⟨j, rfl⟩ := Int.eq_ofNat_of_zero_le q0
  have hj : j < 12 := by omega
  obtain ⟨row, hrj⟩ := get_some (l := ([12, 11, 0, 1, 2, 3, 4, 5, 6, 7, 8, 9] : List Int)) (k := j) (by show j < 12; exact hj)
  have hcr := Row.off hrows (show (List.map (Value.int .i64) [12, 11, 0, 1, 2, 3, 4, 5, 6, 7, 8, 9])[j]? = some (.int .i64 row) by rw [List.getElem?_map, hrj]; rfl)
  rw [Nat.zero_add] at hcr
  have hbit := Lib.hid (rows_bit (List.mem_of_getElem? hrj))
  clear q0 q1 hrj hrows
  have hho := Lib.hid (hole_zero hv.out hk hbit.out)
  have hhi := Lib.hid (hasHole_yes hho.out rfl hxk'.out)
  have hbc := Lib.hid (show bitCode row = 0 by unfold bitCode; rw [if_neg hbit.out])
  have hcc := Lib.hid (count_ok hv.out)
  have hCnt := Lib.hid (fun (U : World) (hU : RI U (some ⟨b3, o3, none⟩) xs) => (show Calls Try.prog 36 #[.agg #[.slice (some ⟨b3, o3, none⟩) xs.length c3]] U fun e w' => e = .returned (.tuple #[.int .i64 (countI xs), .int .i64 0]) ∧ Below U.heap.size U w' by
    have h := impl_CountHoles (some ⟨b3, o3, none⟩) c3 xs U hU (by unfold maxLen; omega)
    rw [hcc.out.2] at h; exact h))
  have hBit := Lib.hid (fun (U : World) => (show Calls Try.prog 37 #[.int .i64 row] U fun e w' => e = .returned (.tuple #[.int .i64 (bitI row), .int .i64 0]) ∧ U = w' by
    have h := impl_BitOf row U
    rw [hbc.out] at h; exact h))
  cases hh : (bits BinOp.and IntKind.i64 x (bitI row) != 0)
  · obtain ⟨p1, p2, p3, p4, p5, p6⟩ := punched_all hv.out hP'.out hxk'.out hbit.out hh
    have hHas := Lib.hid (fun (U : World) (hU : RI U (some ⟨b3, o3, none⟩) xs) => (show Calls Try.prog 34 #[.agg #[.slice (some ⟨b3, o3, none⟩) xs.length c3], .int .i64 k, .int .i64 row] U fun e w' => e = .returned (.tuple #[.bool false, .int .i64 0]) ∧ Below U.heap.size U w' by
      have h := impl_HasHole (some ⟨b3, o3, none⟩) c3 xs k row U hU (by unfold maxLen; omega)
      rw [hhi.out, hh, hho.out] at h; exact h))
    have hdl : (xs.set k (bits BinOp.or IntKind.i64 x (bitI row))).length = xs.length := by simp
    have hPun := Lib.hid (fun (U : World) (hU : RI U (some ⟨b3, o3, none⟩) xs) => (show Calls Try.prog 35 #[.agg #[.slice (some ⟨b3, o3, none⟩) xs.length c3], .int .i64 k, .int .i64 row] U fun e w' => ∃ a' c', e = .returned (.tuple #[.agg #[.slice a' xs.length c'], .int .i64 0]) ∧ RI w' a' (xs.set k (bits BinOp.or IntKind.i64 x (bitI row))) ∧ Below U.heap.size U w' by
      refine (impl_PunchHole (some ⟨b3, o3, none⟩) c3 xs k row U hU (by unfold maxLen; omega)).mono ?_
      rintro e w' ⟨a', c', he, ho, hb⟩
      rw [p1, p2, hdl] at he
      rw [p2] at ho
      exact ⟨a', c', he, own_RI ho, hb⟩))
    have hCnt2 := Lib.hid (fun (U : World) (a : Option Addr) (c : Nat) (hU : RI U a (xs.set k (bits BinOp.or IntKind.i64 x (bitI row)))) => (show Calls Try.prog 36 #[.agg #[.slice a xs.length c]] U fun e w' => e = .returned (.tuple #[.int .i64 (countI xs + 1), .int .i64 0]) ∧ Below U.heap.size U w' by
      have h := impl_CountHoles a c _ U hU (by rw [hdl]; unfold maxLen; omega)
      rw [p4, (count_ok p3).2, hdl] at h; exact h))
    have hHas2 := Lib.hid (fun (U : World) (a : Option Addr) (c : Nat) (hU : RI U a (xs.set k (bits BinOp.or IntKind.i64 x (bitI row)))) => (show Calls Try.prog 34 #[.agg #[.slice a xs.length c], .int .i64 k, .int .i64 row] U fun e w' => e = .returned (.tuple #[.bool true, .int .i64 0]) ∧ Below U.heap.size U w' by
      have h := impl_HasHole a c _ k row U hU (by rw [hdl]; unfold maxLen; omega)
      rw [p5, p6, hdl] at h; exact h))
    have hVal2 := Lib.hid (fun (U : World) (a : Option Addr) (c : Nat) (hU : RI U a (xs.set k (bits BinOp.or IntKind.i64 x (bitI row)))) => (show Calls Try.prog 38 #[.agg #[.slice a xs.length c]] U fun e w' => e = .returned (.bool true) ∧ Below U.heap.size U w' by
      have h := spec_ValidCard a c _ U hU (by rw [hdl]; unfold maxLen; omega)
      rw [p3, hdl] at h; exact h))
    have hdk := Lib.hid (show (xs.set k (bits BinOp.or IntKind.i64 x (bitI row)))[k]? = some (bits BinOp.or IntKind.i64 x (bitI row)) by simp [hk])
    have hcb := sumUp_bd xs xs.length
    rw [← hcc.out.1] at hcb
    clear p1 p2 p3 p4 p5 p6 hdl
    have hh2 : (bits BinOp.and IntKind.i64 x (bitI row) != 0) = false := hh
    have hk0 : (k : Int) < (xs.length : Int) := by omega
    generalize hds : xs.set k (bits BinOp.or IntKind.i64 x (bitI row)) = ds at *
    clear hds
    generalize bitI row = bt at *
    generalize countI xs = cn at *
    go_wp2_with fail
    refine (hHas.out _ hx.out).mono ?_
    rintro e w4 ⟨rfl, hb⟩
    replace hca := keep hb hca
    replace hcx := keep hb hcx
    replace hx := Lib.hid (hx.out.kept hb)
    replace hB2 := Lib.hid (bthen hB2.out hb)
    clear hb
    go_wp2_with fail
    refine (hPun.out _ hx.out).mono ?_
    rintro e w5 ⟨a5, c5, rfl, hd, hb⟩
    replace hca := keep hb hca
    replace hcx := keep hb hcx
    replace hx := Lib.hid (hx.out.kept hb)
    replace hB2 := Lib.hid (bthen hB2.out hb)
    clear hb
    obtain ⟨b5, o5, rfl, hcy⟩ := hd.at hdk.out
    have hb := below_alloc (w := w5) (.cells #[.slice (some ⟨b5, o5, none⟩) xs.length c5] 48)
    have hcd : (w5.alloc (.cells #[.slice (some ⟨b5, o5, none⟩) xs.length c5] 48)).cell? ⟨w5.heap.size, 0, none⟩ = some (.slice (some ⟨b5, o5, none⟩) xs.length c5) := by simp [go_sem]
    replace hca := keep hb hca
    replace hcx := keep hb hcx
    replace hx := Lib.hid (hx.out.kept hb)
    replace hB2 := Lib.hid (bthen hB2.out hb)
    replace hcy := keep hb hcy
    replace hd := Lib.hid (hd.kept hb)
    clear hb
    go_wp2_with fail
    refine (hCnt.out _ hx.out).mono ?_
    rintro e w6 ⟨rfl, hb⟩
    replace hca := keep hb hca
    replace hcx := keep hb hcx
    replace hx := Lib.hid (hx.out.kept hb)
    replace hB2 := Lib.hid (bthen hB2.out hb)
    replace hcd := keep hb hcd
    replace hd := Lib.hid (hd.out.kept hb)
    replace hcy := keep hb hcy
    clear hb
    go_wp2_with (go_at_call 37; ((with_reducible refine (hBit.out _).mono ?_); rintro e w' ⟨rfl, rfl⟩))
    refine (hCnt2.out _ _ _ hd.out).mono ?_
    rintro e w14 ⟨rfl, hb⟩
    replace hca := keep hb hca
    replace hcx := keep hb hcx
    replace hx := Lib.hid (hx.out.kept hb)
    replace hB2 := Lib.hid (bthen hB2.out hb)
    replace hcd := keep hb hcd
    replace hd := Lib.hid (hd.out.kept hb)
    replace hcy := keep hb hcy
    clear hb
    go_wp2_with fail
    refine (hHas2.out _ _ _ hd.out).mono ?_
    rintro e w15 ⟨rfl, hb⟩
    replace hca := keep hb hca
    replace hcx := keep hb hcx
    replace hx := Lib.hid (hx.out.kept hb)
    replace hB2 := Lib.hid (bthen hB2.out hb)
    replace hcd := keep hb hcd
    replace hd := Lib.hid (hd.out.kept hb)
    replace hcy := keep hb hcy
    clear hb
    go_wp2_with fail
    have hw1 : IntKind.i64.wrap (cn + 1) = cn + 1 := IntWalk.i64_in _ (by omega)
    (first | go_region_held3 (fun W => Below w15.heap.size w15 W ∧ W.cell? ⟨w1.heap.size, 0, none⟩ = some (.slice (some ⟨b3, o3, none⟩) xs.length c3) ∧ W.cell? ⟨w5.heap.size, 0, none⟩ = some (.slice (some ⟨b5, o5, none⟩) xs.length c5) ∧ W.cell? ⟨b3, o3 + k, none⟩ = some (.int .i64 x) ∧ W.cell? ⟨b5, o5 + k, none⟩ = some (.int .i64 (bits BinOp.or IntKind.i64 x bt))) (first | exact held4 (below_drewN (Below.refl _ _) 1) hca hcd hcx hcy | (rename Below w15.heap.size w15 _ ∧ _ => hH; refine held4 ?_ hca hcd hcx hcy; (refine bthen hH.1 ?_; assumption))) (first | (go_at_call 38; ((with_reducible refine (hVal2.out _ _ _ (hd.out.kept (And.left ‹Below w15.heap.size w15 _ ∧ _›))).mono ?_); rintro e wq0 ⟨rfl, hbq⟩))) | fail)
    clear hw1
    have hb := And.left ‹Below w15.heap.size w15 wq0 ∧ _›
    replace hca := keep hb hca
    replace hcx := keep hb hcx
    replace hx := Lib.hid (hx.out.kept hb)
    replace hB2 := Lib.hid (bthen hB2.out hb)
    clear hb
    go_wp2_with fail
    have hbl := Lib.hid (fun (U : World) => (show Calls Try.prog 39 #[.int .i64 xs.length] U fun e w' => ∃ a' c', e = .returned (.tuple #[.agg #[.slice a' xs.length c'], .int .i64 0]) ∧ RI w' a' (zerosL xs.length) ∧ Below U.heap.size U w' by
      refine (impl_BlankCard xs.length U).mono ?_
      rintro e w' ⟨a', c', he, ho, hb⟩
      have hin : inB (xs.length : Int) 1 20 = true := inB_true.2 ⟨by omega, by omega⟩
      have p1 : blankL xs.length = zerosL xs.length := by unfold blankL; rw [hin]; rfl
      have p2 : blankCode xs.length = 0 := by unfold blankCode; rw [hin]; rfl
      rw [p1, zerosL_length, p2] at he
      rw [p1] at ho
      exact ⟨a', c', he, own_RI ho, hb⟩))
    refine (hbl.out _).mono ?_
    rintro e w7 ⟨a7, c7, rfl, hz7, hb⟩
    replace hca := keep hb hca
    replace hx := Lib.hid (hx.out.kept hb)
    replace hB2 := Lib.hid (bthen hB2.out hb)
    clear hb
    have hpp := below_alloc (w := w7) (.cells #[.slice a7 xs.length c7] 48)
    have hcz : (w7.alloc (.cells #[.slice a7 xs.length c7] 48)).cell? ⟨w7.heap.size, 0, none⟩ = some (.slice a7 xs.length c7) := by simp [go_sem]
    replace hca := keep hpp hca
    replace hx := Lib.hid (hx.out.kept hpp)
    replace hz7 := Lib.hid (hz7.kept hpp)
    replace hB2 := Lib.hid (bthen hB2.out hpp)
    clear hpp
    go_wp2_with fail
    have hzv := Lib.hid (show validCardL (zerosL xs.length) = true from card_valid (by rw [zerosL_length]; omega) (by rw [zerosL_length]; omega) (fun y hy => by rw [show y = 0 from List.eq_of_mem_replicate hy]; unfold MaskP; omega))
    have hov := Lib.hid (fun (U : World) (b : Option Addr) (d : Nat) (ys : List Int) (hU : RI U (some ⟨b3, o3, none⟩) xs) (hY : RI U b ys) (hyl : ys.length = xs.length) (hyv : validCardL ys = true) (hor : orL xs ys = xs) => (show Calls Try.prog 40 #[.agg #[.slice (some ⟨b3, o3, none⟩) xs.length c3], .agg #[.slice b xs.length d]] U fun e w' => ∃ a' c', e = .returned (.tuple #[.agg #[.slice a' xs.length c'], .int .i64 0]) ∧ RI w' a' xs ∧ Below U.heap.size U w' by
      have h := impl_Overlay (some ⟨b3, o3, none⟩) c3 xs b d ys U hU hY (by unfold maxLen; omega) (by unfold maxLen; omega)
      rw [hyl] at h
      refine h.mono ?_
      rintro e w' ⟨a', c', he, ho, hb⟩
      obtain ⟨p1, p2⟩ := overlay_ok hv.out hyv hyl.symm
      rw [p1, p2, hor] at he
      rw [p2, hor] at ho
      exact ⟨a', c', he, own_RI ho, hb⟩))
    refine (hov.out _ _ _ _ hx.out hz7.out (zerosL_length _) hzv.out (orL_zero hP'.out (zerosL_length _) (fun y hy => List.eq_of_mem_replicate hy))).mono ?_
    rintro e w8 ⟨a8, c8, rfl, hx8, hb⟩
    have hpp := below_alloc (w := w8) (.cells #[.slice a8 xs.length c8] 48)
    have hc8 : (w8.alloc (.cells #[.slice a8 xs.length c8] 48)).cell? ⟨w8.heap.size, 0, none⟩ = some (.slice a8 xs.length c8) := by simp [go_sem]
    replace hca := keep hpp (keep hb hca)
    replace hx := Lib.hid ((hx.out.kept hb).kept hpp)
    replace hx8 := Lib.hid (hx8.kept hpp)
    replace hB2 := Lib.hid (bthen (bthen hB2.out hb) hpp)
    clear hb hpp
    go_wp2_with fail
    refine (hov.out _ _ _ _ hx.out hx.out rfl hv.out (orL_self hP'.out)).mono ?_
    rintro e w9 ⟨a9, c9, rfl, hx9, hb⟩
    have hpp := below_alloc (w := w9) (.cells #[.slice a9 xs.length c9] 48)
    have hc9 : (w9.alloc (.cells #[.slice a9 xs.length c9] 48)).cell? ⟨w9.heap.size, 0, none⟩ = some (.slice a9 xs.length c9) := by simp [go_sem]
    replace hca := keep hpp (keep hb hca)
    replace hc8 := keep hpp (keep hb hc8)
    replace hx := Lib.hid ((hx.out.kept hb).kept hpp)
    replace hx8 := Lib.hid ((hx8.out.kept hb).kept hpp)
    replace hx9 := Lib.hid (hx9.kept hpp)
    replace hB2 := Lib.hid (bthen (bthen hB2.out hb) hpp)
    clear hb hpp
    go_wp2_with fail
    have hpi := Lib.hid (fun (U : World) (hU : RI U (some ⟨b3, o3, none⟩) xs) => (show Calls Try.prog 41 #[.agg #[.slice (some ⟨b3, o3, none⟩) xs.length c3]] U fun e w' => ∃ a' c', e = .returned (.tuple #[.slice a' 12 c', .int .i64 0]) ∧ Below U.heap.size U w' by
      refine (impl_CardPicture (some ⟨b3, o3, none⟩) c3 xs U hU (by unfold maxLen; omega)).mono ?_
      rintro e w' ⟨a', c', he, _, hb⟩
      obtain ⟨p1, p2⟩ := cardPic_ok hv.out
      rw [p1, picsL_length, p2] at he
      exact ⟨a', c', he, hb⟩))
    refine (hpi.out _ hx.out).mono ?_
    rintro e w10 ⟨a10, c10, rfl, hb⟩
    replace hca := keep hb hca
    replace hc8 := keep hb hc8
    replace hc9 := keep hb hc9
    replace hx := Lib.hid (hx.out.kept hb)
    replace hx8 := Lib.hid (hx8.out.kept hb)
    replace hx9 := Lib.hid (hx9.out.kept hb)
    replace hB2 := Lib.hid (bthen hB2.out hb)
    clear hb
    have hsi := Lib.hid (fun (U : World) (b : Option Addr) (d : Nat) (hY : RI U b xs) (hU : RI U (some ⟨b3, o3, none⟩) xs) => (show Calls Try.prog 42 #[.agg #[.slice b xs.length d], .agg #[.slice (some ⟨b3, o3, none⟩) xs.length c3]] U fun e w' => e = .returned (.bool true) ∧ Below U.heap.size U w' by
      have h := impl_SameCard b d xs (some ⟨b3, o3, none⟩) c3 xs U hY hU (by unfold maxLen; omega) (by unfold maxLen; omega)
      rw [eqB_refl] at h; exact h))
    have hss := Lib.hid (fun (U : World) (b : Option Addr) (d : Nat) (hY : RI U b xs) (hU : RI U (some ⟨b3, o3, none⟩) xs) => (show Calls Try.prog 33 #[.agg #[.slice b xs.length d], .agg #[.slice (some ⟨b3, o3, none⟩) xs.length c3]] U fun e w' => e = .returned (.bool true) ∧ Below U.heap.size U w' by
      have h := spec_SameCard b d xs (some ⟨b3, o3, none⟩) c3 xs U hY hU (by unfold maxLen; omega) (by unfold maxLen; omega)
      rw [eqB_refl] at h; exact h))
    go_wp2_with fail
    refine (hsi.out _ _ _ hx8.out hx.out).mono ?_
    rintro e w11 ⟨rfl, hb⟩
    replace hca := keep hb hca
    replace hc8 := keep hb hc8
    replace hc9 := keep hb hc9
    replace hx := Lib.hid (hx.out.kept hb)
    replace hx8 := Lib.hid (hx8.out.kept hb)
    replace hx9 := Lib.hid (hx9.out.kept hb)
    replace hB2 := Lib.hid (bthen hB2.out hb)
    clear hb
    go_wp2_with fail
    refine (hss.out _ _ _ hx8.out hx.out).mono ?_
    rintro e w12 ⟨rfl, hb⟩
    replace hca := keep hb hca
    replace hc8 := keep hb hc8
    replace hc9 := keep hb hc9
    replace hx := Lib.hid (hx.out.kept hb)
    replace hx8 := Lib.hid (hx8.out.kept hb)
    replace hx9 := Lib.hid (hx9.out.kept hb)
    replace hB2 := Lib.hid (bthen hB2.out hb)
    clear hb
    go_wp2_with fail
    refine (hss.out _ _ _ hx9.out hx.out).mono ?_
    rintro e w13 ⟨rfl, hb⟩
    replace hca := keep hb hca
    replace hc8 := keep hb hc8
    replace hc9 := keep hb hc9
    replace hx := Lib.hid (hx.out.kept hb)
    replace hx8 := Lib.hid (hx8.out.kept hb)
    replace hx9 := Lib.hid (hx9.out.kept hb)
    replace hB2 := Lib.hid (bthen hB2.out hb)
    clear hb
    go_wp2_with fail
    go_ret
    exact ⟨rfl, hB2.out⟩
  · have hHas := Lib.hid (fun (U : World) (hU : RI U (some ⟨b3, o3, none⟩) xs) => (show Calls Try.prog 34 #[.agg #[.slice (some ⟨b3, o3, none⟩) xs.length c3], .int .i64 k, .int .i64 row] U fun e w' => e = .returned (.tuple #[.bool true, .int .i64 0]) ∧ Below U.heap.size U w' by
      have h := impl_HasHole (some ⟨b3, o3, none⟩) c3 xs k row U hU (by unfold maxLen; omega)
      rw [hhi.out, hh, hho.out] at h; exact h))
    have hPun := Lib.hid (fun (U : World) (hU : RI U (some ⟨b3, o3, none⟩) xs) => (show Calls Try.prog 35 #[.agg #[.slice (some ⟨b3, o3, none⟩) xs.length c3], .int .i64 k, .int .i64 row] U fun e w' => ∃ a' c', e = .returned (.tuple #[.agg #[.slice a' 0 c'], .int .i64 4]) ∧ Below U.heap.size U w' by
      refine (impl_PunchHole (some ⟨b3, o3, none⟩) c3 xs k row U hU (by unfold maxLen; omega)).mono ?_
      rintro e w' ⟨a', c', he, _, hb⟩
      obtain ⟨p1, p2⟩ := punchHole_has hho.out rfl hxk'.out hh
      rw [p1, p2] at he
      exact ⟨a', c', he, hb⟩))
    have hh2 : (bits BinOp.and IntKind.i64 x (bitI row) != 0) = true := hh
    have hk0 : (k : Int) < (xs.length : Int) := by omega
    generalize bitI row = bt at *
    generalize countI xs = cn at *
    go_wp2_with fail
    refine (hHas.out _ hx.out).mono ?_
    rintro e w4 ⟨rfl, hb⟩
    replace hca := keep hb hca
    replace hcx := keep hb hcx
    replace hx := Lib.hid (hx.out.kept hb)
    replace hB2 := Lib.hid (bthen hB2.out hb)
    clear hb
    go_wp2_with fail
    refine (hPun.out _ hx.out).mono ?_
    rintro e w5 ⟨a5, c5, rfl, hb⟩
    replace hca := keep hb hca
    replace hcx := keep hb hcx
    replace hx := Lib.hid (hx.out.kept hb)
    replace hB2 := Lib.hid (bthen hB2.out hb)
    clear hb
    have hpp := below_alloc (w := w5) (.cells #[.slice a5 0 c5] 48)
    replace hca := keep hpp hca
    replace hcx := keep hpp hcx
    replace hx := Lib.hid (hx.out.kept hpp)
    replace hB2 := Lib.hid (bthen hB2.out hpp)
    clear hpp
    go_wp2_with fail
    refine (hCnt.out _ hx.out).mono ?_
    rintro e w6 ⟨rfl, hb⟩
    replace hca := keep hb hca
    replace hcx := keep hb hcx
    replace hx := Lib.hid (hx.out.kept hb)
    replace hB2 := Lib.hid (bthen hB2.out hb)
    clear hb
    go_wp2_with (go_at_call 37; ((with_reducible refine (hBit.out _).mono ?_); rintro e w' ⟨rfl, rfl⟩))
    have hbl := Lib.hid (fun (U : World) => (show Calls Try.prog 39 #[.int .i64 xs.length] U fun e w' => ∃ a' c', e = .returned (.tuple #[.agg #[.slice a' xs.length c'], .int .i64 0]) ∧ RI w' a' (zerosL xs.length) ∧ Below U.heap.size U w' by
      refine (impl_BlankCard xs.length U).mono ?_
      rintro e w' ⟨a', c', he, ho, hb⟩
      have hin : inB (xs.length : Int) 1 20 = true := inB_true.2 ⟨by omega, by omega⟩
      have p1 : blankL xs.length = zerosL xs.length := by unfold blankL; rw [hin]; rfl
      have p2 : blankCode xs.length = 0 := by unfold blankCode; rw [hin]; rfl
      rw [p1, zerosL_length, p2] at he
      rw [p1] at ho
      exact ⟨a', c', he, own_RI ho, hb⟩))
    refine (hbl.out _).mono ?_
    rintro e w7 ⟨a7, c7, rfl, hz7, hb⟩
    replace hca := keep hb hca
    replace hx := Lib.hid (hx.out.kept hb)
    replace hB2 := Lib.hid (bthen hB2.out hb)
    clear hb
    have hpp := below_alloc (w := w7) (.cells #[.slice a7 xs.length c7] 48)
    have hcz : (w7.alloc (.cells #[.slice a7 xs.length c7] 48)).cell? ⟨w7.heap.size, 0, none⟩ = some (.slice a7 xs.length c7) := by simp [go_sem]
    replace hca := keep hpp hca
    replace hx := Lib.hid (hx.out.kept hpp)
    replace hz7 := Lib.hid (hz7.kept hpp)
    replace hB2 := Lib.hid (bthen hB2.out hpp)
    clear hpp
    go_wp2_with fail
    have hzv := Lib.hid (show validCardL (zerosL xs.length) = true from card_valid (by rw [zerosL_length]; omega) (by rw [zerosL_length]; omega) (fun y hy => by rw [show y = 0 from List.eq_of_mem_replicate hy]; unfold MaskP; omega))
    have hov := Lib.hid (fun (U : World) (b : Option Addr) (d : Nat) (ys : List Int) (hU : RI U (some ⟨b3, o3, none⟩) xs) (hY : RI U b ys) (hyl : ys.length = xs.length) (hyv : validCardL ys = true) (hor : orL xs ys = xs) => (show Calls Try.prog 40 #[.agg #[.slice (some ⟨b3, o3, none⟩) xs.length c3], .agg #[.slice b xs.length d]] U fun e w' => ∃ a' c', e = .returned (.tuple #[.agg #[.slice a' xs.length c'], .int .i64 0]) ∧ RI w' a' xs ∧ Below U.heap.size U w' by
      have h := impl_Overlay (some ⟨b3, o3, none⟩) c3 xs b d ys U hU hY (by unfold maxLen; omega) (by unfold maxLen; omega)
      rw [hyl] at h
      refine h.mono ?_
      rintro e w' ⟨a', c', he, ho, hb⟩
      obtain ⟨p1, p2⟩ := overlay_ok hv.out hyv hyl.symm
      rw [p1, p2, hor] at he
      rw [p2, hor] at ho
      exact ⟨a', c', he, own_RI ho, hb⟩))
    refine (hov.out _ _ _ _ hx.out hz7.out (zerosL_length _) hzv.out (orL_zero hP'.out (zerosL_length _) (fun y hy => List.eq_of_mem_replicate hy))).mono ?_
    rintro e w8 ⟨a8, c8, rfl, hx8, hb⟩
    have hpp := below_alloc (w := w8) (.cells #[.slice a8 xs.length c8] 48)
    have hc8 : (w8.alloc (.cells #[.slice a8 xs.length c8] 48)).cell? ⟨w8.heap.size, 0, none⟩ = some (.slice a8 xs.length c8) := by simp [go_sem]
    replace hca := keep hpp (keep hb hca)
    replace hx := Lib.hid ((hx.out.kept hb).kept hpp)
    replace hx8 := Lib.hid (hx8.kept hpp)
    replace hB2 := Lib.hid (bthen (bthen hB2.out hb) hpp)
    clear hb hpp
    go_wp2_with fail
    refine (hov.out _ _ _ _ hx.out hx.out rfl hv.out (orL_self hP'.out)).mono ?_
    rintro e w9 ⟨a9, c9, rfl, hx9, hb⟩
    have hpp := below_alloc (w := w9) (.cells #[.slice a9 xs.length c9] 48)
    have hc9 : (w9.alloc (.cells #[.slice a9 xs.length c9] 48)).cell? ⟨w9.heap.size, 0, none⟩ = some (.slice a9 xs.length c9) := by simp [go_sem]
    replace hca := keep hpp (keep hb hca)
    replace hc8 := keep hpp (keep hb hc8)
    replace hx := Lib.hid ((hx.out.kept hb).kept hpp)
    replace hx8 := Lib.hid ((hx8.out.kept hb).kept hpp)
    replace hx9 := Lib.hid (hx9.kept hpp)
    replace hB2 := Lib.hid (bthen (bthen hB2.out hb) hpp)
    clear hb hpp
    go_wp2_with fail
    have hpi := Lib.hid (fun (U : World) (hU : RI U (some ⟨b3, o3, none⟩) xs) => (show Calls Try.prog 41 #[.agg #[.slice (some ⟨b3, o3, none⟩) xs.length c3]] U fun e w' => ∃ a' c', e = .returned (.tuple #[.slice a' 12 c', .int .i64 0]) ∧ Below U.heap.size U w' by
      refine (impl_CardPicture (some ⟨b3, o3, none⟩) c3 xs U hU (by unfold maxLen; omega)).mono ?_
      rintro e w' ⟨a', c', he, _, hb⟩
      obtain ⟨p1, p2⟩ := cardPic_ok hv.out
      rw [p1, picsL_length, p2] at he
      exact ⟨a', c', he, hb⟩))
    refine (hpi.out _ hx.out).mono ?_
    rintro e w10 ⟨a10, c10, rfl, hb⟩
    replace hca := keep hb hca
    replace hc8 := keep hb hc8
    replace hc9 := keep hb hc9
    replace hx := Lib.hid (hx.out.kept hb)
    replace hx8 := Lib.hid (hx8.out.kept hb)
    replace hx9 := Lib.hid (hx9.out.kept hb)
    replace hB2 := Lib.hid (bthen hB2.out hb)
    clear hb
    have hsi := Lib.hid (fun (U : World) (b : Option Addr) (d : Nat) (hY : RI U b xs) (hU : RI U (some ⟨b3, o3, none⟩) xs) => (show Calls Try.prog 42 #[.agg #[.slice b xs.length d], .agg #[.slice (some ⟨b3, o3, none⟩) xs.length c3]] U fun e w' => e = .returned (.bool true) ∧ Below U.heap.size U w' by
      have h := impl_SameCard b d xs (some ⟨b3, o3, none⟩) c3 xs U hY hU (by unfold maxLen; omega) (by unfold maxLen; omega)
      rw [eqB_refl] at h; exact h))
    have hss := Lib.hid (fun (U : World) (b : Option Addr) (d : Nat) (hY : RI U b xs) (hU : RI U (some ⟨b3, o3, none⟩) xs) => (show Calls Try.prog 33 #[.agg #[.slice b xs.length d], .agg #[.slice (some ⟨b3, o3, none⟩) xs.length c3]] U fun e w' => e = .returned (.bool true) ∧ Below U.heap.size U w' by
      have h := spec_SameCard b d xs (some ⟨b3, o3, none⟩) c3 xs U hY hU (by unfold maxLen; omega) (by unfold maxLen; omega)
      rw [eqB_refl] at h; exact h))
    go_wp2_with fail
    refine (hsi.out _ _ _ hx8.out hx.out).mono ?_
    rintro e w11 ⟨rfl, hb⟩
    replace hca := keep hb hca
    replace hc8 := keep hb hc8
    replace hc9 := keep hb hc9
    replace hx := Lib.hid (hx.out.kept hb)
    replace hx8 := Lib.hid (hx8.out.kept hb)
    replace hx9 := Lib.hid (hx9.out.kept hb)
    replace hB2 := Lib.hid (bthen hB2.out hb)
    clear hb
    go_wp2_with fail
    refine (hss.out _ _ _ hx8.out hx.out).mono ?_
    rintro e w12 ⟨rfl, hb⟩
    replace hca := keep hb hca
    replace hc8 := keep hb hc8
    replace hc9 := keep hb hc9
    replace hx := Lib.hid (hx.out.kept hb)
    replace hx8 := Lib.hid (hx8.out.kept hb)
    replace hx9 := Lib.hid (hx9.out.kept hb)
    replace hB2 := Lib.hid (bthen hB2.out hb)
    clear hb
    go_wp2_with fail
    refine (hss.out _ _ _ hx9.out hx.out).mono ?_
    rintro e w13 ⟨rfl, hb⟩
    replace hca := keep hb hca
    replace hc8 := keep hb hc8
    replace hc9 := keep hb hc9
    replace hx := Lib.hid (hx.out.kept hb)
    replace hx8 := Lib.hid (hx8.out.kept hb)
    replace hx9 := Lib.hid (hx9.out.kept hb)
    replace hB2 := Lib.hid (bthen hB2.out hb)
    clear hb
    go_wp2_with fail
    go_ret
    exact ⟨rfl, hB2.out⟩

theorem lifted (os : Os) (started : os.Started) (H : Type) (enc : TypeId × Value → H) :
    ReturnsInHanded {} Try.checked os 7 .any (Rows.fnCardsSpec.pre6 enc Try.prog Try.f7 Rows.fnCardsRow.domain false) (Rows.fnCardsSpec.post enc Try.prog Try.f7 false true false false) := by
  refine returnsInHanded_of_change (C := Try.checked) own started (by kernel_rfl) Try.func7
    (ChangeSpec.witness6 (enc := enc) (C := Try.checked) false ⟨#[], #[.slice none 0 0, .slice none 0 0], []⟩ 8 (by kernel_rfl) (by kernel_rfl) (by kernel_rfl) (by kernel_rfl)) ?_
  intro W base args ds gs before hval0 hW hcnd _
  have hval : ∀ (j : Nat) t v, Try.f7.params[j]? = some t → args[j]? = some v → Value.okWide Try.prog W .any base t v := hval0
  have hW' := hW
  obtain ⟨p, q, hA0, hV, rfl, hfz, hnd⟩ := hW
  have hA : DataW.TrodAll enc Try.prog W 0 (fun _ => true) true Try.f7.params.toList args.toList ds p := hA0
  rw [Try.params7] at hA hval
  obtain ⟨v0, vs0, d0, ds0, p0, q0, hargs, rfl, rfl, h0, r0⟩ := trodAll_cons hA
  obtain ⟨v1, vs1, d1, ds1, p1, q1, rfl, rfl, rfl, h1, r1⟩ := trodAll_cons r0
  obtain ⟨rfl, rfl, rfl⟩ := trodAll_nil r1
  obtain rfl : args = #[v0, v1] := by cases args; simp_all
  obtain ⟨rfl, rfl⟩ := trodVars_none hV
  have k0 := h0
  have lt0 : ∀ x ∈ p0, x.block < W.heap.size := by obtain ⟨m, hm⟩ := k0; exact DataW.trod_lt m _ _ _ hm
  obtain ⟨a0, c0, x0, rfl, hx0, _, hm0⟩ := open_bytes Try.underlying44 Try.underlying5 (by kernel_rfl) (hval 0 44 v0 rfl rfl) h0
  replace hm0 : x0.length ≤ maxLen := by omega
  have k1 := h1
  have lt1 : ∀ x ∈ p1, x.block < W.heap.size := by obtain ⟨m, hm⟩ := k1; exact DataW.trod_lt m _ _ _ hm
  obtain ⟨a1, c1, x1, rfl, hx1, _, hm1⟩ := open_bytes Try.underlying44 Try.underlying5 (by kernel_rfl) (hval 1 44 v1 rfl rfl) h1
  replace hm1 : x1.length ≤ maxLen := by omega
  clear hA0 hval0
  refine (walk a0 c0 x0 a1 c1 x1 W hx0 hm0 hx1 hm1).mono fun e W' ⟨he, bel⟩ => ?_
  subst he
  exact ⟨_, rfl, _, _, _, [], _, [], hW', trodAll_mk1 (shut_bool Try.underlying4 _), (trodAll_cons_mk (Below.trod laidOut (by kernel_rfl) (of_decide_eq_true (by kernel_rfl)) k0 bel lt0) (trodAll_cons_mk (Below.trod laidOut (by kernel_rfl) (of_decide_eq_true (by kernel_rfl)) k1 bel lt1) trodAll_mk0)), rfl, bel.frame _, fun h => by cases h⟩

theorem over : Rows.fnCardsRow.holds Try.pinned (OpenSpec.ofChange Rows.fnCardsSpec) :=
  OpenClaim.holds_of_wide 7 Try.f7 rfl rfl rfl rfl rfl rfl rfl ⟨rfl, rfl, rfl, rfl, rfl⟩ rfl rfl rfl rfl rfl (by kernel_rfl) Try.func7 (by kernel_rfl)
    (of_decide_eq_true (by kernel_rfl)) (by unfold Func.isWrapper; first | (rw [if_pos (by decide +kernel)]; kernel_rfl) | (rw [if_neg (by decide +kernel)]; exact ⟨rfl, rfl⟩))
    (fun os started H enc _ => lifted os started H enc)

/-- The statement. -/
theorem proved : Rows.FnCardsSaid := over
#print axioms proved
end Go.Proofs.Ytdjggbccdjbcoaa.fnCards
