/- The walk of the reference's function that adds an item to a layout: what it returns, and that memory has at most new blocks. -/
import Derived.Test.YtcbjfgjlhjjpiaaGreatDoorAdd
import Derived.Deep.CutRange
namespace Go.Proofs.YtcbjfgjlhjjpiaaGreatDoor
open Go.RowKit
set_option maxRecDepth 100000
set_option linter.unusedVariables false
set_option linter.unusedSimpArgs false
set_option linter.unnecessarySimpa false

theorem meet_comm {x y : Itm} {b : Bool} (h : meetB x y = b) : (decide (y.fr < x.to) && decide (x.fr < y.to)) = b := by rw [← h]; unfold meetB; rw [Bool.and_comm]
set_option maxHeartbeats 4000000 in
theorem spec_AddItem (wd : Int) (a : Option Addr) (c : Nat) (xs : List Itm) (p : Itm) (w : World) (hx : RT w a xs) (hn : itemsSz xs ≤ 1048576) (hcap : xs.length ≤ c) (hpn : p.name.size ≤ 1048576) :
    Calls Tryz.prog 21 #[.agg #[.int .i64 wd, .slice a xs.length c], .agg #[.string p.name, .int .i64 p.kind, .int .i64 p.fr, .int .i64 p.to]] w fun e w' => ∃ a' c', e = .returned (.tuple #[.agg #[.int .i64 (addW wd xs p), .slice a' (addL wd xs p).length c'], .int .i64 (addCode wd xs p)]) ∧ w'.ownsRow w.heap.size 48 4 (.slice a' (addL wd xs p).length c') (addL wd xs p).length (itemsV (addL wd xs p)) ∧ Below w.heap.size w w' := by
  have hb0 := Lib.hid (below_alloc3 w (.cells #[.int .i64 wd, .slice a xs.length c] 35) (.cells #[.string p.name, .int .i64 p.kind, .int .i64 p.fr, .int .i64 p.to] 48) (.cells #[.int .i64 0, .slice none 0 0] 35))
  have hdl := itemsSz_len xs
  have hpm : p.name.size ≤ maxLen := small hpn
  obtain ⟨i0, hi, hz0, hz1, hz2⟩ := info_parts Tryz.info_item
  have hok := Lib.hid (spec_l04Ok w.heap.size wd a c xs _ (by simp [go_sem]) (by simp [go_sem]) (hx.kept hb0.out) hn)
  go_enter Tryz.func21, Tryz.ntmps21
  go_wp2_with fail
  refine hok.out.mono ?_
  rintro e w1 ⟨rfl, hb⟩
  clear hok
  (have hc0 := keep (p := ⟨w.heap.size, 0, none⟩) (v := .int .i64 wd) hb (by simp [go_sem, *]); have hf0 := keepf (p := ⟨w.heap.size, 0, none⟩) (v := .int .i64 wd) hb (by simp [go_sem, *]) (by simp [go_sem, *]); have hl0 := World.block_lt_of_cell? _ _ hc0; have hc1 := keep (p := ⟨w.heap.size, 1, none⟩) (v := .slice a xs.length c) hb (by simp [go_sem, *]); have hf1 := keepf (p := ⟨w.heap.size, 1, none⟩) (v := .slice a xs.length c) hb (by simp [go_sem, *]) (by simp [go_sem, *]); have hl1 := World.block_lt_of_cell? _ _ hc1; have hc2 := keep (p := ⟨w.heap.size + 1, 0, none⟩) (v := .string p.name) hb (by simp [go_sem, *]); have hf2 := keepf (p := ⟨w.heap.size + 1, 0, none⟩) (v := .string p.name) hb (by simp [go_sem, *]) (by simp [go_sem, *]); have hl2 := World.block_lt_of_cell? _ _ hc2; have hc3 := keep (p := ⟨w.heap.size + 1, 1, none⟩) (v := .int .i64 p.kind) hb (by simp [go_sem, *]); have hf3 := keepf (p := ⟨w.heap.size + 1, 1, none⟩) (v := .int .i64 p.kind) hb (by simp [go_sem, *]) (by simp [go_sem, *]); have hl3 := World.block_lt_of_cell? _ _ hc3; have hc4 := keep (p := ⟨w.heap.size + 1, 2, none⟩) (v := .int .i64 p.fr) hb (by simp [go_sem, *]); have hf4 := keepf (p := ⟨w.heap.size + 1, 2, none⟩) (v := .int .i64 p.fr) hb (by simp [go_sem, *]) (by simp [go_sem, *]); have hl4 := World.block_lt_of_cell? _ _ hc4; have hc5 := keep (p := ⟨w.heap.size + 1, 3, none⟩) (v := .int .i64 p.to) hb (by simp [go_sem, *]); have hf5 := keepf (p := ⟨w.heap.size + 1, 3, none⟩) (v := .int .i64 p.to) hb (by simp [go_sem, *]) (by simp [go_sem, *]); have hl5 := World.block_lt_of_cell? _ _ hc5; have hc6 := keep (p := ⟨w.heap.size + 2, 0, none⟩) (v := .int .i64 0) hb (by simp [go_sem, *]); have hf6 := keepf (p := ⟨w.heap.size + 2, 0, none⟩) (v := .int .i64 0) hb (by simp [go_sem, *]) (by simp [go_sem, *]); have hl6 := World.block_lt_of_cell? _ _ hc6; have hc7 := keep (p := ⟨w.heap.size + 2, 1, none⟩) (v := .slice none 0 0) hb (by simp [go_sem, *]); have hf7 := keepf (p := ⟨w.heap.size + 2, 1, none⟩) (v := .slice none 0 0) hb (by simp [go_sem, *]) (by simp [go_sem, *]); have hl7 := World.block_lt_of_cell? _ _ hc7)
  have hB1 := Lib.hid (bthen hb0.out hb)
  clear hb
  cases hv : validLayB wd xs
  · have hf := Lib.hid (add_1 p hv)
    go_wp2_with fail
    refine bodyPost_ret (v := .tuple #[.agg #[.int .i64 0, .slice none 0 0], .int .i64 1]) (by simp [results, Tryz.results21, go_sem, *]) rfl ⟨none, 0, by rw [hf.out.1, hf.out.2.1, hf.out.2.2]; rfl, by rw [hf.out.2.1]; exact World.ownsRow_nil _ _ _ _, (hB1.out.setCell (by dsimp only; omega) _).setCell (by dsimp only; omega) _⟩
  · obtain ⟨v1, v2, v3, v4⟩ := validLay_is hv
    have hit := Lib.hid (fun (y : Itm) (hy : y ∈ xs) => itemB_field (validLay_item hv hy))
    clear v4
    have hok := Lib.hid (spec_l04Item (w.heap.size + 1) 0 p wd w1 hpm (by omega) hc2 hc3 hc4 hc5)
    go_wp2_with fail
    refine hok.out.mono ?_
    rintro e w2 ⟨rfl, hb⟩
    clear hok
    (replace hf0 := keepf hb hc0 hf0; replace hc0 := keep hb hc0; replace hl0 := World.block_lt_of_cell? _ _ hc0; replace hf1 := keepf hb hc1 hf1; replace hc1 := keep hb hc1; replace hl1 := World.block_lt_of_cell? _ _ hc1; replace hf2 := keepf hb hc2 hf2; replace hc2 := keep hb hc2; replace hl2 := World.block_lt_of_cell? _ _ hc2; replace hf3 := keepf hb hc3 hf3; replace hc3 := keep hb hc3; replace hl3 := World.block_lt_of_cell? _ _ hc3; replace hf4 := keepf hb hc4 hf4; replace hc4 := keep hb hc4; replace hl4 := World.block_lt_of_cell? _ _ hc4; replace hf5 := keepf hb hc5 hf5; replace hc5 := keep hb hc5; replace hl5 := World.block_lt_of_cell? _ _ hc5; replace hf6 := keepf hb hc6 hf6; replace hc6 := keep hb hc6; replace hl6 := World.block_lt_of_cell? _ _ hc6; replace hf7 := keepf hb hc7 hf7; replace hc7 := keep hb hc7; replace hl7 := World.block_lt_of_cell? _ _ hc7)
    replace hB1 := Lib.hid (bthen hB1.out hb)
    clear hb
    cases hv2 : itemB p wd
    · have hf := Lib.hid (add_2 hv hv2)
      go_wp2_with fail
      refine bodyPost_ret (v := .tuple #[.agg #[.int .i64 0, .slice none 0 0], .int .i64 2]) (by simp [results, Tryz.results21, go_sem, *]) rfl ⟨none, 0, by rw [hf.out.1, hf.out.2.1, hf.out.2.2]; rfl, by rw [hf.out.2.1]; exact World.ownsRow_nil _ _ _ _, (hB1.out.setCell (by dsimp only; omega) _).setCell (by dsimp only; omega) _⟩
    · obtain ⟨p1, p2, p3⟩ := itemB_field hv2
      have hok := Lib.hid (spec_l04Find w.heap.size wd a c xs p.name w2 hc1 (hx.kept hB1.out) hn)
      go_wp2_with fail
      refine hok.out.mono ?_
      rintro e w3 ⟨rfl, hb⟩
      clear hok
      (replace hf0 := keepf hb hc0 hf0; replace hc0 := keep hb hc0; replace hl0 := World.block_lt_of_cell? _ _ hc0; replace hf1 := keepf hb hc1 hf1; replace hc1 := keep hb hc1; replace hl1 := World.block_lt_of_cell? _ _ hc1; replace hf2 := keepf hb hc2 hf2; replace hc2 := keep hb hc2; replace hl2 := World.block_lt_of_cell? _ _ hc2; replace hf3 := keepf hb hc3 hf3; replace hc3 := keep hb hc3; replace hl3 := World.block_lt_of_cell? _ _ hc3; replace hf4 := keepf hb hc4 hf4; replace hc4 := keep hb hc4; replace hl4 := World.block_lt_of_cell? _ _ hc4; replace hf5 := keepf hb hc5 hf5; replace hc5 := keep hb hc5; replace hl5 := World.block_lt_of_cell? _ _ hc5; replace hf6 := keepf hb hc6 hf6; replace hc6 := keep hb hc6; replace hl6 := World.block_lt_of_cell? _ _ hc6; replace hf7 := keepf hb hc7 hf7; replace hc7 := keep hb hc7; replace hl7 := World.block_lt_of_cell? _ _ hc7)
      replace hB1 := Lib.hid (bthen hB1.out hb)
      clear hb
      have hge := firstB_ge (namedB p.name) xs
      have hgi : -1 ≤ findI xs p.name ∧ findI xs p.name < xs.length := ⟨hge.1, hge.2.1⟩
      clear hge
      obtain ⟨hgi1, hgi2⟩ := hgi
      by_cases hneg : findI xs p.name < 0
      · have hneg' : ¬ 0 ≤ findI xs p.name := by omega
        have h4 := Lib.hid (fun (h : xs.any (meetB p) = true) => add_4 hv hv2 hneg h)
        have h5 := Lib.hid (fun (h : xs.any (meetB p) = false) (h' : xs.length = 12) => add_5 hv hv2 hneg h h')
        have h6 := Lib.hid (fun (h : xs.any (meetB p) = false) (h' : ¬ xs.length = 12) => add_ok hv hv2 hneg h h')
        have hx3 := Lib.hid (hx.kept hB1.out)
        clear hv hv2
        go_wp2_with fail
        generalize hN : xs.length = n at *
        have hN' := Lib.hid hN
        clear hN
        go_loopw [6] (fun q wr => ∃ j : Nat, j ≤ n ∧ q = .int .i64 j ∧ Hid ((xs.take j).any (meetB p) = false) ∧ Below w3.heap.size w3 wr) (fun q _ => n - (intOf q).toNat)
        case atStart => exact ⟨0, by omega, rfl, Lib.hid rfl, Below.refl _ _⟩
        case round =>
          obtain ⟨j, hj, rfl, hany, hbx⟩ := hrel
          (replace hf0 := keepf hbx hc0 hf0; replace hc0 := keep hbx hc0; replace hl0 := World.block_lt_of_cell? _ _ hc0; replace hf1 := keepf hbx hc1 hf1; replace hc1 := keep hbx hc1; replace hl1 := World.block_lt_of_cell? _ _ hc1; replace hf2 := keepf hbx hc2 hf2; replace hc2 := keep hbx hc2; replace hl2 := World.block_lt_of_cell? _ _ hc2; replace hf3 := keepf hbx hc3 hf3; replace hc3 := keep hbx hc3; replace hl3 := World.block_lt_of_cell? _ _ hc3; replace hf4 := keepf hbx hc4 hf4; replace hc4 := keep hbx hc4; replace hl4 := World.block_lt_of_cell? _ _ hc4; replace hf5 := keepf hbx hc5 hf5; replace hc5 := keep hbx hc5; replace hl5 := World.block_lt_of_cell? _ _ hc5; replace hf6 := keepf hbx hc6 hf6; replace hc6 := keep hbx hc6; replace hl6 := World.block_lt_of_cell? _ _ hc6; replace hf7 := keepf hbx hc7 hf7; replace hc7 := keep hbx hc7; replace hl7 := World.block_lt_of_cell? _ _ hc7)
          have hBx := Lib.hid (bthen hB1.out hbx)
          by_cases hlj : j < n
          · obtain ⟨y, hyj⟩ := get_some (l := xs) (k := j) (by rw [hN'.out]; omega)
            obtain ⟨b1, o1, rfl, hd0, hd1, hd2, hd3⟩ := (hx3.out.kept hbx).at hyj
            have hyj' := Lib.hid hyj
            clear hyj
            cases hm : meetB p y
            · have hm' := meet_comm hm
              have hnx := Lib.hid (any_succ hyj'.out hany.out hm)
              have hmt := Lib.hid (fun W => by have := spec_l04Meet y.fr y.to p.fr p.to W; rw [hm'] at this; exact this)
              clear hm' hm
              go_wp2_with fail
              (first | go_region_held3 (fun W => Below wr.heap.size wr W ∧ W.cell? ⟨w.heap.size, 1, none⟩ = some (.slice (some ⟨b1, o1, none⟩) n c) ∧ W.cell? ⟨b1, o1 + j * 4 + 2, none⟩ = some (.int .i64 y.fr) ∧ W.cell? ⟨b1, o1 + j * 4 + 3, none⟩ = some (.int .i64 y.to) ∧ W.cell? ⟨w.heap.size + 1, 2, none⟩ = some (.int .i64 p.fr) ∧ W.cell? ⟨w.heap.size + 1, 3, none⟩ = some (.int .i64 p.to)) (first | exact held5 (below_drewN (Below.refl _ _) 1) hc1 hd2 hd3 hc4 hc5 | (rename Below wr.heap.size wr _ ∧ _ => hH; refine held5 ?_ hc1 hd2 hd3 hc4 hc5; (refine bthen hH.1 ?_; assumption))) (first | (go_at_call 88; ((with_reducible refine (hmt.out _).mono ?_); rintro e wq0 ⟨rfl, hbq⟩))) | fail)
              all_goals
                have hHc := And.left ‹Below wr.heap.size wr _ ∧ _›
                go_wp2_with fail
                go_roundw
                case rel => exact ⟨j + 1, by omega, by go_num, hnx, bthen hbx hHc⟩
                case measure => simp [intOf]; omega
            · have hm' := meet_comm hm
              have hf := Lib.hid (h4.out (List.any_eq_true.2 ⟨y, List.mem_of_getElem? hyj'.out, hm⟩))
              have hmt := Lib.hid (fun W => by have := spec_l04Meet y.fr y.to p.fr p.to W; rw [hm'] at this; exact this)
              clear hm' hm
              go_wp2_with fail
              (first | go_region_held3 (fun W => Below wr.heap.size wr W ∧ W.cell? ⟨w.heap.size, 1, none⟩ = some (.slice (some ⟨b1, o1, none⟩) n c) ∧ W.cell? ⟨b1, o1 + j * 4 + 2, none⟩ = some (.int .i64 y.fr) ∧ W.cell? ⟨b1, o1 + j * 4 + 3, none⟩ = some (.int .i64 y.to) ∧ W.cell? ⟨w.heap.size + 1, 2, none⟩ = some (.int .i64 p.fr) ∧ W.cell? ⟨w.heap.size + 1, 3, none⟩ = some (.int .i64 p.to)) (first | exact held5 (below_drewN (Below.refl _ _) 1) hc1 hd2 hd3 hc4 hc5 | (rename Below wr.heap.size wr _ ∧ _ => hH; refine held5 ?_ hc1 hd2 hd3 hc4 hc5; (refine bthen hH.1 ?_; assumption))) (first | (go_at_call 88; ((with_reducible refine (hmt.out _).mono ?_); rintro e wq0 ⟨rfl, hbq⟩))) | fail)
              all_goals
                have hHc := And.left ‹Below wr.heap.size wr _ ∧ _›
                (replace hf0 := keepf hHc hc0 hf0; replace hc0 := keep hHc hc0; replace hl0 := World.block_lt_of_cell? _ _ hc0; replace hf1 := keepf hHc hc1 hf1; replace hc1 := keep hHc hc1; replace hl1 := World.block_lt_of_cell? _ _ hc1; replace hf2 := keepf hHc hc2 hf2; replace hc2 := keep hHc hc2; replace hl2 := World.block_lt_of_cell? _ _ hc2; replace hf3 := keepf hHc hc3 hf3; replace hc3 := keep hHc hc3; replace hl3 := World.block_lt_of_cell? _ _ hc3; replace hf4 := keepf hHc hc4 hf4; replace hc4 := keep hHc hc4; replace hl4 := World.block_lt_of_cell? _ _ hc4; replace hf5 := keepf hHc hc5 hf5; replace hc5 := keep hHc hc5; replace hl5 := World.block_lt_of_cell? _ _ hc5; replace hf6 := keepf hHc hc6 hf6; replace hc6 := keep hHc hc6; replace hl6 := World.block_lt_of_cell? _ _ hc6; replace hf7 := keepf hHc hc7 hf7; replace hc7 := keep hHc hc7; replace hl7 := World.block_lt_of_cell? _ _ hc7)
                go_wp2_with fail
                refine bodyPost_ret (v := .tuple #[.agg #[.int .i64 0, .slice none 0 0], .int .i64 9]) (by simp [results, Tryz.results21, go_sem, *]) rfl ⟨none, 0, by rw [hf.out.1, hf.out.2.1, hf.out.2.2]; rfl, by rw [hf.out.2.1]; exact World.ownsRow_nil _ _ _ _, ((bthen hBx.out hHc).setCell (by dsimp only; omega) _).setCell (by dsimp only; omega) _⟩
          · obtain rfl : j = n := by omega
            have hall : xs.any (meetB p) = false := by have := hany.out; rwa [List.take_of_length_le (by rw [hN'.out]; exact Nat.le_refl _)] at this
            by_cases h12 : j = 12
            · have hf := Lib.hid (h5.out hall h12)
              go_wp2_with fail
              refine bodyPost_ret (v := .tuple #[.agg #[.int .i64 0, .slice none 0 0], .int .i64 5]) (by simp [results, Tryz.results21, go_sem, *]) rfl ⟨none, 0, by rw [hf.out.1, hf.out.2.1, hf.out.2.2]; rfl, by rw [hf.out.2.1]; exact World.ownsRow_nil _ _ _ _, (hBx.out.setCell (by dsimp only; omega) _).setCell (by dsimp only; omega) _⟩
            · have hf := Lib.hid (h6.out hall h12)
              obtain ⟨w4, rfl⟩ : ∃ w4 : World, w4 = wr := ⟨_, rfl⟩
              have hx4 := Lib.hid (hx3.out.kept hbx)
              have hs4 := hBx.out.size
              have hl6' : w.heap.size + 2 < w4.heap.size := hl6
              have hS := Lib.hid (fun (W : World) (hb : Below (w.heap.size + 3) w4 W) => And.intro hb (And.intro (heldB hb (by omega) hc0) (heldB hb (by omega) hc1)))
              generalize hjn : j = n at *
              clear hjn
              clear hneg hneg' hgi1 hgi2 hall hany hlj
              have hlv := Lib.hid (show (itemsV xs).length = n * 4 by rw [itemsV_length, hN'.out])
              have hm63 := Lib.hid (show 0 + n ≤ maxLen by unfold maxLen; omega)
              have hm64 := Lib.hid (show n + 1 ≤ maxLen by unfold maxLen; omega)
              have bd := below_drewN (Below.refl w4.heap.size w4) 1
              have hoA := Lib.hid (World.ownsRow_lit (base := w4.heap.size) (e := 48) (size := 4) (w4.drewN 1) #[] 0 (Nat.le_refl _) (by simp [maxLen]) rfl)
              have hoB := Lib.hid (hoA.out.alloc (.cells #[.int .i64 0, .slice none 0 0] 35))
              have hoC := Lib.hid (show (((w4.drewN 1).alloc (.cells #[.int .i64 0, .slice none 0 0] 35)).alloc (.cells #[] 48)).ownsRow w4.heap.size 48 4 (.slice (some ⟨w4.heap.size + 1, 0, none⟩) 0 0) 0 [] by
                have h := World.ownsRow_lit (base := w4.heap.size) (e := 48) (size := 4) ((w4.drewN 1).alloc (.cells #[.int .i64 0, .slice none 0 0] 35)) #[] 0 (by simp) (by simp [maxLen]) rfl
                rw [show ((w4.drewN 1).alloc (.cells #[.int .i64 0, .slice none 0 0] 35)).heap.size = w4.heap.size + 1 by simp] at h
                exact h)
              have bA := Lib.hid (bd.alloc (Nat.le_refl _) (.cells #[] 48))
              have bB := Lib.hid ((bd.alloc (Nat.le_refl _) (.cells #[] 48)).alloc (by simp) (.cells #[.int .i64 0, .slice none 0 0] 35))
              have bC := Lib.hid ((bd.alloc (Nat.le_refl _) (.cells #[.int .i64 0, .slice none 0 0] 35)).alloc (by simp) (.cells #[] 48))
              have hsA := Lib.hid (show w4.heap.size ≤ ((w4.drewN 1).alloc (.cells #[] 48)).heap.size by simp)
              have hsB := Lib.hid (show w4.heap.size ≤ (((w4.drewN 1).alloc (.cells #[] 48)).alloc (.cells #[.int .i64 0, .slice none 0 0] 35)).heap.size by simp; omega)
              have hsC := Lib.hid (show w4.heap.size ≤ (((w4.drewN 1).alloc (.cells #[.int .i64 0, .slice none 0 0] 35)).alloc (.cells #[] 48)).heap.size by simp; omega)
              have hkA := Lib.hid (fun (k : Nat) (hk : (Value.slice (some ⟨w4.heap.size, 0, none⟩) 0 0).ownBlock = some k) => (show w4.heap.size ≤ k by simp [Value.ownBlock] at hk; omega))
              have hkB := hkA
              have hkC := Lib.hid (fun (k : Nat) (hk : (Value.slice (some ⟨w4.heap.size + 1, 0, none⟩) 0 0).ownBlock = some k) => (show w4.heap.size ≤ k by simp [Value.ownBlock] at hk; omega))
              have rB := Lib.hid (show (((w4.drewN 1).alloc (.cells #[] 48)).alloc (.cells #[.int .i64 0, .slice none 0 0] 35)).heap[w4.heap.size + 1]? = some (.cells #[.int .i64 0, .slice none 0 0] 35 (0, 0)) by
                have h := heap_alloc_new ((w4.drewN 1).alloc (.cells #[] 48)) (.cells #[.int .i64 0, .slice none 0 0] 35)
                rw [show ((w4.drewN 1).alloc (.cells #[] 48)).heap.size = w4.heap.size + 1 by simp] at h
                exact h)
              have rC := Lib.hid (show (((w4.drewN 1).alloc (.cells #[.int .i64 0, .slice none 0 0] 35)).alloc (.cells #[] 48)).heap[w4.heap.size]? = some (.cells #[.int .i64 0, .slice none 0 0] 35 (0, 0)) from (heap_alloc_old ((w4.drewN 1).alloc (.cells #[.int .i64 0, .slice none 0 0] 35)) (.cells #[] 48) (by simp)).trans (heap_alloc_new (w4.drewN 1) (.cells #[.int .i64 0, .slice none 0 0] 35)))
              clear bd
              go_upto_region 14 with (fail)
              go_cut [7] from 43 to 49 (fun s7 wx => ∃ (B : Nat) (a5 : Option Addr) (c5 : Nat), s7 = .pointer (some ⟨B, 0, none⟩) ∧ wx.heap[B]? = some (.cells #[.int .i64 wd, .slice a5 n c5] 35 (0, 0)) ∧ wx.ownsRow w4.heap.size 48 4 (.slice a5 n c5) n (itemsV xs) ∧ w4.heap.size ≤ B ∧ (∀ q, a5 = some q → ¬ q.block = B) ∧ Below w4.heap.size w4 wx)
              case first =>
                go_region_held3 (fun W => Below (w.heap.size + 3) w4 W ∧ W.cell? ⟨w.heap.size, 0, none⟩ = some (.int .i64 wd) ∧ W.cell? ⟨w.heap.size, 1, none⟩ = some (.slice a n c)) (first | exact hS.out _ (below_drewN (Below.refl _ _) 1) | (rename Below (w.heap.size + 3) w4 _ ∧ _ => hH; refine hS.out _ ?_; first | exact hH.1.alloc (Nat.le_trans (by omega) hH.1.size) _ | exact (hH.1.setCell (by dsimp only; omega) _).setCell (by dsimp only; omega) _ | (refine below_realloc hH.1 ?_; omega) | assumption)) (first | (refine step_row rfl _ _ 33 rfl w4.heap.size 48 i0 _ 4 40 Tryz.underlying33 hi hz0 hz1 hz2 rfl (by decide) (.slice (some ⟨w4.heap.size, 0, none⟩) 0 0) 0 [] rfl hoA.out a n c (itemsV xs) rfl hlv.out (hx4.out.kept bA.out) (items_one xs) hm63.out (by omega) hsA.out ?_; intro v5 w5 hown5 hg5; have hb5 := Lib.hid (bA.out.grown hg5 hsA.out hkA.out); have hq5 : Below (w.heap.size + 3) w4 w5 := hb5.out.mono (by omega); have hs5 := hb5.out.size; (simp only [Nat.zero_add, List.nil_append] at hown5); obtain ⟨a5, c5, hv5, _, _⟩ := own_slice hown5; subst hv5; have ho5 := Lib.hid hown5; clear hown5 hg5) | (refine step_row rfl _ _ 33 rfl w4.heap.size 48 i0 _ 4 40 Tryz.underlying33 hi hz0 hz1 hz2 rfl (by decide) (.slice (some ⟨w4.heap.size, 0, none⟩) 0 0) 0 [] rfl hoB.out a n c (itemsV xs) rfl hlv.out (hx4.out.kept bB.out) (items_one xs) hm63.out (by omega) hsB.out ?_; intro v5 w5 hown5 hg5; have hb5 := Lib.hid (bB.out.grown hg5 hsB.out hkB.out); have hq5 : Below (w.heap.size + 3) w4 w5 := hb5.out.mono (by omega); have hs5 := hb5.out.size; have hz5 := Lib.hid (blk_far rB.out hg5 (by simp [Value.ownBlock])); obtain ⟨hzc0, hzc1, hzf0, hzf1⟩ := blk_cell hz5.out; (simp only [Nat.zero_add, List.nil_append] at hown5); obtain ⟨a5, c5, hv5, _, _⟩ := own_slice hown5; subst hv5; have ho5 := Lib.hid hown5; clear hown5 hg5) | (refine step_row rfl _ _ 33 rfl w4.heap.size 48 i0 _ 4 40 Tryz.underlying33 hi hz0 hz1 hz2 rfl (by decide) (.slice (some ⟨w4.heap.size + 1, 0, none⟩) 0 0) 0 [] rfl hoC.out a n c (itemsV xs) rfl hlv.out (hx4.out.kept bC.out) (items_one xs) hm63.out (by omega) hsC.out ?_; intro v5 w5 hown5 hg5; have hb5 := Lib.hid (bC.out.grown hg5 hsC.out hkC.out); have hq5 : Below (w.heap.size + 3) w4 w5 := hb5.out.mono (by omega); have hs5 := hb5.out.size; have hz5 := Lib.hid (blk_far rC.out hg5 (by simp [Value.ownBlock])); obtain ⟨hzc0, hzc1, hzf0, hzf1⟩ := blk_cell hz5.out; (simp only [Nat.zero_add, List.nil_append] at hown5); obtain ⟨a5, c5, hv5, _, _⟩ := own_slice hown5; subst hv5; have ho5 := Lib.hid hown5; clear hown5 hg5))
                all_goals
                  go_wp2_with fail
                  go_meet
                  first
                    | exact ⟨_, a5, c5, rfl, heap_alloc_new _ _, ((OV.of ho5.out).kept (below_alloc _)).1, by omega, fun q hq => by (have := own_at ho5.out hq; omega), hb5.out.alloc hs5 _⟩
                    | exact ⟨_, a5, c5, rfl, blk_set2 hz5.out, ((OV.of ho5.out).far2 hz5.out (by decide) _ _ _ _).1, by omega, (OV.of ho5.out).ne_block hz5.out (by decide), (hb5.out.setCell (by dsimp only; omega) _).setCell (by dsimp only; omega) _⟩
              obtain ⟨B, a5, c5, rfl, hbk, ho5, hBl, hne5, hb5⟩ := hcut
              rename World => wx
              have hs5 := hb5.size
              have hx2 := keep hb5 hc2
              have hx3' := keep hb5 hc3
              have hx4' := keep hb5 hc4
              have hx5 := keep hb5 hc5
              obtain ⟨q0, q1, q2, q3⟩ := blk_cell hbk
              have hBn : ¬ B = w.heap.size + 2 := by omega
              have hBn' : ¬ w.heap.size + 2 = B := by omega
              have ho5' := Lib.hid ho5
              have hne5' := Lib.hid hne5
              have hblt : B < wx.heap.size := World.block_lt_of_cell? _ _ q0
              clear ho5 hne5 hS hoA hoB hoC bA bB bC hsA hsB hsC hkA hkB hkC rB rC
              go_wp2_with (at_builtin; refine wpList_append_own _ rfl _ _ 33 rfl w4.heap.size 48 i0 _ 4 40 Tryz.underlying33 hi hz0 hz1 hz2 rfl (by decide) _ n (itemsV xs) rfl (ho5'.out.alloc _) ⟨wx.heap.size, 0, none⟩ 1 1 p.cells rfl rfl (Row.add (row_block (heap_alloc_new wx _))) (item_one p) hm64.out (by omega) (by simp; omega) ?_; intro v6 w6 hown6 hg6 _; have hz6 := Lib.hid (blk_far ((heap_alloc_old wx _ hblt).trans hbk) hg6 (own_ne hne5'.out)); have hb6 := Lib.hid ((hb5.alloc hs5 _).grown hg6 (by simp; omega) (fun k hk => (ho5'.out.lt k hk).1)); obtain ⟨a6, c6, hv6, _, _⟩ := own_slice hown6; subst hv6; have ho6 := Lib.hid hown6; obtain ⟨r0, r1, r2, r3⟩ := blk_cell hz6.out; have hr6 := keep hb6.out hc6; have hr7 := keep hb6.out hc7; have hg6' := keepf hb6.out hc6 hf6; have hg7 := keepf hb6.out hc7 hf7; clear hown6 hg6)
              refine bodyPost_ret (v := .tuple #[.agg #[.int .i64 wd, .slice a6 (n + 1) c6], .int .i64 0]) (by simp [results, Tryz.results21, go_sem, *]) rfl ⟨a6, c6, by rw [hf.out.1, hf.out.2.1, hf.out.2.2, List.length_append, hN'.out]; simp, ?_, ((((bthen hBx.out hb6.out).setCell (by dsimp only; omega) _).setCell (by dsimp only; omega) _)).setCell (by dsimp only; omega) _⟩
              rw [hf.out.2.1, List.length_append, itemsV_append, itemsV_one, hN'.out]
              exact own_mono (ownsRow_setCell_below (ownsRow_setCell_below ((OV.of ho6.out).far hz6.out (by decide) 1 _).1 (by dsimp only; omega) _) (by dsimp only; omega) _) (by omega)
      · have hneg' : 0 ≤ findI xs p.name := by omega
        have hf := Lib.hid (add_3 hv hv2 hneg)
        go_wp2_with fail
        refine bodyPost_ret (v := .tuple #[.agg #[.int .i64 0, .slice none 0 0], .int .i64 4]) (by simp [results, Tryz.results21, go_sem, *]) rfl ⟨none, 0, by rw [hf.out.1, hf.out.2.1, hf.out.2.2]; rfl, by rw [hf.out.2.1]; exact World.ownsRow_nil _ _ _ _, (hB1.out.setCell (by dsimp only; omega) _).setCell (by dsimp only; omega) _⟩
end Go.Proofs.YtcbjfgjlhjjpiaaGreatDoor
