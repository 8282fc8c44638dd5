/- The walks of the functions that tell totals: what each returns, and that memory has at most new blocks. -/
import Derived.Test.YtcbjfgjlhjjpiaaGreatDoorTotL
import Derived.Test.YtcbjfgjlhjjpiaaGreatDoorApp
import Derived.Deep.RegionWith
import Derived.Deep.RegionHeld3
import Derived.Deep.CutRange
namespace Go.Proofs.YtcbjfgjlhjjpiaaGreatDoor
open Go.RowKit
set_option maxRecDepth 100000
set_option linter.unusedVariables false
set_option linter.unusedSimpArgs false
set_option linter.unnecessarySimpa false

set_option maxHeartbeats 1000000 in
theorem impl_layoutCode (wd : Int) (a : Option Addr) (c : Nat) (xs : List Itm) (b : Option Addr) (d : Nat) (xss : List (List Int)) (v : Bool) (w : World) (hx : RT w a xs) (hy : RDx w b xss) (hn : itemsSz xs ≤ 1048576) (hcap : xs.length ≤ c) (hn2 : xss.length ≤ 1048576) (hc2 : ∀ x ∈ xss, x.length ≤ 1048576) :
    Calls Tryz.prog 68 #[.agg #[.int .i64 wd, .slice a xs.length c], .slice b xss.length d, .bool v] w fun e w' => e = .returned (.int .i64 (layI wd xs xss v)) ∧ Below w.heap.size w w' := by
  have hb1 := Lib.hid (below_alloc (w := w) (.cells #[.int .i64 wd, .slice a xs.length c] 35))
  have hvl := Lib.hid (impl_ValidLayout wd a c xs _ (hx.kept hb1.out) hn hcap)
  cases hv : validLayB wd xs
  · have hf := Lib.hid (lay_1 xss v hv)
    go_enter Tryz.func68, Tryz.ntmps68
    go_wp2_with fail
    refine hvl.out.mono ?_
    rintro e w2 ⟨rfl, hb⟩
    have hB := Lib.hid (bthen hb1.out hb)
    clear hb
    go_wp2_with fail
    go_ret
    exact ⟨ret_int (by rw [hf.out]), hB.out⟩
  cases v
  · have hf := Lib.hid (lay_2 wd xs xss)
    go_enter Tryz.func68, Tryz.ntmps68
    go_wp2_with fail
    refine hvl.out.mono ?_
    rintro e w2 ⟨rfl, hb⟩
    have hB := Lib.hid (bthen hb1.out hb)
    clear hb
    go_wp2_with fail
    go_ret
    exact ⟨ret_int (by rw [hf.out]), hB.out⟩
  cases xss with
  | nil =>
    have hf := Lib.hid (lay_nil hv)
    go_enter Tryz.func68, Tryz.ntmps68
    go_wp2_with fail
    refine hvl.out.mono ?_
    rintro e w2 ⟨rfl, hb⟩
    (have hc0 := keep (p := ⟨w.heap.size, 0, none⟩) (v := .int .i64 wd) hb (by simp [go_sem, *]); have hf0 := keepf (p := ⟨w.heap.size, 0, none⟩) (v := .int .i64 wd) hb (by simp [go_sem, *]) (by simp [go_sem, *]); have hl0 := World.block_lt_of_cell? _ _ hc0; have hc1 := keep (p := ⟨w.heap.size, 1, none⟩) (v := .slice a xs.length c) hb (by simp [go_sem, *]); have hf1 := keepf (p := ⟨w.heap.size, 1, none⟩) (v := .slice a xs.length c) hb (by simp [go_sem, *]) (by simp [go_sem, *]); have hl1 := World.block_lt_of_cell? _ _ hc1)
    have hB := Lib.hid (bthen hb1.out hb)
    clear hb
    have hd1 : decide ((0 : Int) < (([] : List (List Int)).length : Int)) = false := rfl
    go_wp2_with fail
    first | go_quiet (fail) | fail
    go_wp2_with fail
    go_ret
    exact ⟨ret_int (by rw [hf.out]), by first | exact below_drewN hB.out _ | exact hB.out⟩
  | cons x r =>
    obtain ⟨b1, o1, a1, c1, rfl, hcx, hrx⟩ := hy.at (k := 0) (x := x) rfl
    rw [Nat.add_zero] at hcx
    have hxl := hc2 x (by simp)
    have hd1 : decide ((0 : Int) < ((x :: r).length : Int)) = true := by first | (simp; done) | (simp; omega)
    have hd2 : decide (0 < (x :: r).length) = true := by simp
    have hd3 : (0 : Int) < ((x :: r).length : Int) := by first | (simp; done) | (simp; omega)
    have hd4 : 0 < (x :: r).length := by simp
    have hq := Lib.hid hy
    have hq2 := Lib.hid hc2
    clear hy hc2
    by_cases he : (x.length : Int) = wd
    · have hf := Lib.hid (lay_ok (r := r) hv he)
      have hne : ((x.length : Int) != wd) = false := by simp [he]
      have he' := Lib.hid he
      clear he
      generalize hQ : (x :: r).length = q at hd1 hd2 hd3 hd4 hn2 ⊢
      clear hQ
      go_enter Tryz.func68, Tryz.ntmps68
      go_wp2_with fail
      refine hvl.out.mono ?_
      rintro e w2 ⟨rfl, hb⟩
      (have hc0 := keep (p := ⟨w.heap.size, 0, none⟩) (v := .int .i64 wd) hb (by simp [go_sem, *]); have hf0 := keepf (p := ⟨w.heap.size, 0, none⟩) (v := .int .i64 wd) hb (by simp [go_sem, *]) (by simp [go_sem, *]); have hl0 := World.block_lt_of_cell? _ _ hc0; have hc1 := keep (p := ⟨w.heap.size, 1, none⟩) (v := .slice a xs.length c) hb (by simp [go_sem, *]); have hf1 := keepf (p := ⟨w.heap.size, 1, none⟩) (v := .slice a xs.length c) hb (by simp [go_sem, *]) (by simp [go_sem, *]); have hl1 := World.block_lt_of_cell? _ _ hc1)
      have hB := Lib.hid (bthen hb1.out hb)
      have hcx2 := keep hB.out hcx
      clear hb
      go_wp2_with fail
      (first | go_region_held3 (fun W => Below w2.heap.size w2 W ∧ W.cell? ⟨w.heap.size, 0, none⟩ = some (.int .i64 wd) ∧ W.cell? ⟨b1, o1, none⟩ = some (.slice a1 x.length c1)) (first | exact held2 (below_drewN (Below.refl _ _) 1) hc0 hcx2 | (rename Below w2.heap.size w2 _ ∧ _ => hH; refine held2 ?_ hc0 hcx2; (refine bthen hH.1 ?_; assumption))) (first | (go_at_call 128; ((with_reducible refine (impl_columns a1 c1 x.length _).mono ?_); rintro e wq0 ⟨rfl, hbq⟩))) | fail)
      all_goals
        have hHb := And.left ‹Below w2.heap.size w2 _ ∧ _›
        go_wp2_with fail
        go_ret
        exact ⟨ret_int (by rw [hf.out]), bthen hB.out hHb⟩
    · have hf := Lib.hid (lay_not (r := r) hv he)
      have hne : ((x.length : Int) != wd) = true := by simp [he]
      clear he
      generalize hQ : (x :: r).length = q at hd1 hd2 hd3 hd4 hn2 ⊢
      clear hQ
      go_enter Tryz.func68, Tryz.ntmps68
      go_wp2_with fail
      refine hvl.out.mono ?_
      rintro e w2 ⟨rfl, hb⟩
      (have hc0 := keep (p := ⟨w.heap.size, 0, none⟩) (v := .int .i64 wd) hb (by simp [go_sem, *]); have hf0 := keepf (p := ⟨w.heap.size, 0, none⟩) (v := .int .i64 wd) hb (by simp [go_sem, *]) (by simp [go_sem, *]); have hl0 := World.block_lt_of_cell? _ _ hc0; have hc1 := keep (p := ⟨w.heap.size, 1, none⟩) (v := .slice a xs.length c) hb (by simp [go_sem, *]); have hf1 := keepf (p := ⟨w.heap.size, 1, none⟩) (v := .slice a xs.length c) hb (by simp [go_sem, *]) (by simp [go_sem, *]); have hl1 := World.block_lt_of_cell? _ _ hc1)
      have hB := Lib.hid (bthen hb1.out hb)
      have hcx2 := keep hB.out hcx
      clear hb
      go_wp2_with fail
      (first | go_region_held3 (fun W => Below w2.heap.size w2 W ∧ W.cell? ⟨w.heap.size, 0, none⟩ = some (.int .i64 wd) ∧ W.cell? ⟨b1, o1, none⟩ = some (.slice a1 x.length c1)) (first | exact held2 (below_drewN (Below.refl _ _) 1) hc0 hcx2 | (rename Below w2.heap.size w2 _ ∧ _ => hH; refine held2 ?_ hc0 hcx2; (refine bthen hH.1 ?_; assumption))) (first | (go_at_call 128; ((with_reducible refine (impl_columns a1 c1 x.length _).mono ?_); rintro e wq0 ⟨rfl, hbq⟩))) | fail)
      all_goals
        have hHb := And.left ‹Below w2.heap.size w2 _ ∧ _›
        go_wp2_with fail
        go_ret
        exact ⟨ret_int (by rw [hf.out]), bthen hB.out hHb⟩
end Go.Proofs.YtcbjfgjlhjjpiaaGreatDoor
