/- The walk of impl.ItemTotal: what it returns, and that memory has at most new blocks. The walks of spec.l04Deck and spec.ItemTotal: what they return, and that memory has at most new blocks. -/
import Derived.Test.YtcbjfgjlhjjpiaaGreatDoorQK
namespace Go.Proofs.YtcbjfgjlhjjpiaaGreatDoor
open Go.RowKit
set_option maxRecDepth 100000
set_option linter.unusedVariables false
set_option linter.unusedSimpArgs false
set_option linter.unnecessarySimpa false

theorem RD.x {w : World} {a : Option Addr} {xss : List (List Int)} (h : RD w a xss) : Go.Proofs.YtcbjfgjlhjjpiaaGreatDoor.RDx w a xss := fun k x hk => by
  obtain ⟨b, o, a', c', h1, h2, h3, _, _⟩ := h.at hk
  exact ⟨b, o, a', c', h1, h2, h3⟩
theorem deckSz_all {xss : List (List Int)} (h : deckSz xss ≤ 1048576) : ∀ x ∈ xss, x.length ≤ 1048576 := fun x hx => by
  obtain ⟨k, hk⟩ := List.getElem?_of_mem hx
  have := deckSz_at hk
  omega
theorem all_bad {p : List Int → Bool} {xss : List (List Int)} {k : Nat} {y : List Int} (h : xss[k]? = some y) (hp : p y = false) : xss.all p = false := by
  rw [List.all_eq_false]; exact ⟨y, List.mem_of_getElem? h, by simp [hp]⟩
theorem all_more {p : List Int → Bool} {xss : List (List Int)} {k : Nat} {y : List Int} (h : xss[k]? = some y) (ha : (xss.take k).all p = true) (hp : p y = true) : (xss.take (k + 1)).all p = true := by
  rw [List.take_add_one, h]; simp [ha, hp]
set_option maxHeartbeats 2000000 in
theorem impl_ItemTotal (wd : Int) (a : Option Addr) (c : Nat) (xs : List Itm) (b : Option Addr) (d : Nat) (xss : List (List Int)) (nm : ByteArray) (w : World) (hx : RT w a xs) (hy : RD w b xss) (hn : itemsSz xs ≤ 1048576) (hcap : xs.length ≤ c) (hn2 : deckSz xss ≤ 1048576) (hnm : nm.size ≤ 1048576) :
    Calls Tryz.prog 29 #[.agg #[.int .i64 wd, .slice a xs.length c], .slice b xss.length d, .string nm] w fun e w' => e = .returned (.tuple #[.int .i64 (totI wd xs xss nm), .int .i64 (totCode wd xs xss nm)]) ∧ Below w.heap.size w w' := by
  have hb1 := Lib.hid (below_alloc (w := w) (.cells #[.int .i64 wd, .slice a xs.length c] 35))
  have hlay : ∀ W : World, Below w.heap.size w W → Calls Tryz.prog 68 #[.agg #[.int .i64 wd, .slice a xs.length c], .slice b xss.length d, .bool (validDeckL xss)] W fun e w' => e = .returned (.int .i64 (layI wd xs xss (validDeckL xss))) ∧ Below W.heap.size W w' := fun W hW => impl_layoutCode wd a c xs b d xss _ W (hx.kept hW) (hy.x.kept hW) hn hcap (by have := deckSz_len xss; omega) (deckSz_all hn2)
  have hdeck : ∀ W : World, Below w.heap.size w W → Calls Tryz.prog 95 #[.slice b xss.length d] W fun e w' => e = .returned (.bool (validDeckL xss)) ∧ Below W.heap.size W w' := fun W hW => impl_ValidDeck b d xss W (hy.kept hW) hn2
  have hfind : ∀ W : World, Below w.heap.size w W → Calls Tryz.prog 70 #[.agg #[.int .i64 wd, .slice a xs.length c], .string nm] W fun e w' => e = .returned (.int .i64 (findI xs nm)) ∧ Below W.heap.size W w' := fun W hW => impl_itemIndex wd a c xs nm W (hx.kept hW) hn
  cases hL : (layI wd xs xss (validDeckL xss) == 0)
  · have hf := Lib.hid (tot_lay nm hL)
    have hne : (layI wd xs xss (validDeckL xss) != 0) = true := by rw [bne, hL]; rfl
    generalize layI wd xs xss (validDeckL xss) = L at *
    go_enter Tryz.func29, Tryz.ntmps29
    go_wp2_with fail
    have hc0 : (w.alloc (.cells #[.int .i64 wd, .slice a xs.length c] 35)).cell? ⟨w.heap.size, 0, none⟩ = some (.int .i64 wd) := by simp [go_sem]
    have hc1 : (w.alloc (.cells #[.int .i64 wd, .slice a xs.length c] 35)).cell? ⟨w.heap.size, 1, none⟩ = some (.slice a xs.length c) := by simp [go_sem]
    generalize hW1 : (w.alloc (.cells #[.int .i64 wd, .slice a xs.length c] 35)) = W1 at *
    (first | go_region_held3 (fun W => Below W1.heap.size W1 W ∧ W.cell? ⟨w.heap.size, 0, none⟩ = some (.int .i64 wd) ∧ W.cell? ⟨w.heap.size, 1, none⟩ = some (.slice a xs.length c)) (first | exact held2 (below_drewN (Below.refl _ _) 1) hc0 hc1 | (rename Below W1.heap.size W1 _ ∧ _ => hH; refine held2 ?_ hc0 hc1; (refine bthen hH.1 ?_; assumption))) (first | (go_at_call 95; ((with_reducible refine (hdeck _ (bthen hb1.out (And.left ‹Below W1.heap.size W1 _ ∧ _›))).mono ?_); rintro e wq0 ⟨rfl, hbq⟩)) | (go_at_call 68; ((with_reducible refine (hlay _ (bthen hb1.out (And.left ‹Below W1.heap.size W1 _ ∧ _›))).mono ?_); rintro e wq1 ⟨rfl, hbq⟩))) | fail)
    all_goals
      have hHb := And.left ‹Below W1.heap.size W1 _ ∧ _›
      go_wp2_with fail
      go_ret2
      exact ⟨by rw [hf.out.1, hf.out.2]; rfl, bthen hb1.out hHb⟩
  have hL0 : layI wd xs xss (validDeckL xss) = 0 := by simpa using hL
  rw [hL0] at hlay
  have hcards := Lib.hid (fun (k : Nat) (y : List Int) (hk : xss[k]? = some y) (x : Itm) (hxm : x ∈ xs) => lay_card hL0 hk hxm)
  have hd40 := deck_len (lay_zero hL0).2.1
  have h1 := Lib.hid (fun h2 => tot_3 (nm := nm) hL0 h2)
  have h2 := Lib.hid (fun (x : Itm) h2 h3 => tot_6 (nm := nm) (x := x) hL0 h2 h3)
  have h3 := Lib.hid (fun (x : Itm) h2 h3 h4 => tot_8 (nm := nm) (x := x) hL0 h2 h3 h4)
  have h4 := Lib.hid (fun (x : Itm) h2 h3 h4 => tot_ok (nm := nm) (x := x) hL0 h2 h3 h4)
  clear hL hL0
  have hxs := Lib.hid hx
  have hys := Lib.hid hy
  have hsz := Lib.hid hn2
  by_cases hneg : findI xs nm < 0
  · have hf := Lib.hid (h1.out (item_none hneg))
    clear hy hx hn2
    go_enter Tryz.func29, Tryz.ntmps29
    go_wp2_with fail
    have hc0 : (w.alloc (.cells #[.int .i64 wd, .slice a xs.length c] 35)).cell? ⟨w.heap.size, 0, none⟩ = some (.int .i64 wd) := by simp [go_sem]
    have hc1 : (w.alloc (.cells #[.int .i64 wd, .slice a xs.length c] 35)).cell? ⟨w.heap.size, 1, none⟩ = some (.slice a xs.length c) := by simp [go_sem]
    generalize hW1 : (w.alloc (.cells #[.int .i64 wd, .slice a xs.length c] 35)) = W1 at *
    (first | go_region_held3 (fun W => Below W1.heap.size W1 W ∧ W.cell? ⟨w.heap.size, 0, none⟩ = some (.int .i64 wd) ∧ W.cell? ⟨w.heap.size, 1, none⟩ = some (.slice a xs.length c)) (first | exact held2 (below_drewN (Below.refl _ _) 1) hc0 hc1 | (rename Below W1.heap.size W1 _ ∧ _ => hH; refine held2 ?_ hc0 hc1; (refine bthen hH.1 ?_; assumption))) (first | (go_at_call 95; ((with_reducible refine (hdeck _ (bthen hb1.out (And.left ‹Below W1.heap.size W1 _ ∧ _›))).mono ?_); rintro e wq0 ⟨rfl, hbq1⟩)) | (go_at_call 68; ((with_reducible refine (hlay _ (bthen hb1.out (And.left ‹Below W1.heap.size W1 _ ∧ _›))).mono ?_); rintro e wq1 ⟨rfl, hbq2⟩))) | fail)
    have hHb := And.left ‹Below W1.heap.size W1 wq1 ∧ _›
    have hc0' := keep hHb hc0
    have hc1' := keep hHb hc1
    have hB := Lib.hid (bthen hb1.out hHb)
    go_wp2_with fail
    refine (hfind _ hB.out).mono ?_
    rintro e w3 ⟨rfl, hb⟩
    go_wp2_with fail
    go_ret2
    exact ⟨by rw [hf.out.1, hf.out.2]; rfl, bthen hB.out hb⟩
  obtain ⟨k, x, hk, hxk, hit⟩ := item_some hneg
  rw [hk] at hfind
  obtain ⟨b1, o1, rfl, q0, q1, q2, q3⟩ := hx.at hxk
  have hkl : k < xs.length := (List.getElem?_eq_some_iff.1 hxk).1
  have hmem := Lib.hid (List.mem_of_getElem? hxk)
  have hit' := Lib.hid hit
  have hk0 : ¬ (k : Int) < 0 := by omega
  clear hneg hk hxk hit hx
  generalize hN : xs.length = n at *
  have hN' := Lib.hid hN
  clear hN hy hn2 hxs
  generalize hM : xss.length = m at *
  have hM' := Lib.hid hM
  clear hM
  cases hkd : (x.kind == 2)
  · have hf := Lib.hid (h2.out _ hit'.out hkd)
    have hkn : (x.kind != 2) = true := by rw [bne, hkd]; rfl
    go_enter Tryz.func29, Tryz.ntmps29
    go_wp2_with fail
    have hc0 : (w.alloc (.cells #[.int .i64 wd, .slice (some ⟨b1, o1, none⟩) n c] 35)).cell? ⟨w.heap.size, 0, none⟩ = some (.int .i64 wd) := by simp [go_sem]
    have hc1 : (w.alloc (.cells #[.int .i64 wd, .slice (some ⟨b1, o1, none⟩) n c] 35)).cell? ⟨w.heap.size, 1, none⟩ = some (.slice (some ⟨b1, o1, none⟩) n c) := by simp [go_sem]
    generalize hW1 : (w.alloc (.cells #[.int .i64 wd, .slice (some ⟨b1, o1, none⟩) n c] 35)) = W1 at *
    (first | go_region_held3 (fun W => Below W1.heap.size W1 W ∧ W.cell? ⟨w.heap.size, 0, none⟩ = some (.int .i64 wd) ∧ W.cell? ⟨w.heap.size, 1, none⟩ = some (.slice (some ⟨b1, o1, none⟩) n c)) (first | exact held2 (below_drewN (Below.refl _ _) 1) hc0 hc1 | (rename Below W1.heap.size W1 _ ∧ _ => hH; refine held2 ?_ hc0 hc1; (refine bthen hH.1 ?_; assumption))) (first | (go_at_call 95; ((with_reducible refine (hdeck _ (bthen hb1.out (And.left ‹Below W1.heap.size W1 _ ∧ _›))).mono ?_); rintro e wq0 ⟨rfl, hbq1⟩)) | (go_at_call 68; ((with_reducible refine (hlay _ (bthen hb1.out (And.left ‹Below W1.heap.size W1 _ ∧ _›))).mono ?_); rintro e wq1 ⟨rfl, hbq2⟩))) | fail)
    have hHb := And.left ‹Below W1.heap.size W1 wq1 ∧ _›
    have hc0' := keep hHb hc0
    have hc1' := keep hHb hc1
    have hB := Lib.hid (bthen hb1.out hHb)
    go_wp2_with fail
    refine (hfind _ hB.out).mono ?_
    rintro e w3 ⟨rfl, hb⟩
    have hB3 := Lib.hid (bthen hB.out hb)
    have z0 := keep hb hc0'
    have z1 := keep hb hc1'
    have y0 := keep hB3.out q0
    have y1 := keep hB3.out q1
    have y2 := keep hB3.out q2
    have y3 := keep hB3.out q3
    clear hb hHb hc0 hc1 hc0' hc1' hW1 hb1 hbq1 hbq2
    go_upto_region 6 with (fail)
    go_cut [9, 10] from 29 to 35 (fun s9 s10 wx => ∃ B : Nat, s9 = .pointer (some ⟨B, 0, none⟩) ∧ s10 = .int .i64 0 ∧ wx.cell? ⟨B, 0, none⟩ = some (.string x.name) ∧ wx.cell? ⟨B, 1, none⟩ = some (.int .i64 x.kind) ∧ wx.cell? ⟨B, 2, none⟩ = some (.int .i64 x.fr) ∧ wx.cell? ⟨B, 3, none⟩ = some (.int .i64 x.to) ∧ w3.heap.size ≤ B ∧ Below w3.heap.size w3 wx)
    case first =>
      go_region_held3 (fun W => Below w3.heap.size w3 W ∧ W.cell? ⟨w.heap.size, 0, none⟩ = some (.int .i64 wd) ∧ W.cell? ⟨w.heap.size, 1, none⟩ = some (.slice (some ⟨b1, o1, none⟩) n c) ∧ W.cell? ⟨b1, o1 + k * 4, none⟩ = some (.string x.name) ∧ W.cell? ⟨b1, o1 + k * 4 + 1, none⟩ = some (.int .i64 x.kind) ∧ W.cell? ⟨b1, o1 + k * 4 + 2, none⟩ = some (.int .i64 x.fr) ∧ W.cell? ⟨b1, o1 + k * 4 + 3, none⟩ = some (.int .i64 x.to)) (first | exact held6 (below_drewN (Below.refl _ _) 1) z0 z1 y0 y1 y2 y3 | (rename Below w3.heap.size w3 _ ∧ _ => hH; refine held6 ?_ z0 z1 y0 y1 y2 y3; first | (refine bthen hH.1 ?_; assumption) | exact hH.1.alloc hH.1.size _ | (refine below_realloc hH.1 ?_; omega) | exact (((hH.1.setCell (by dsimp only; omega) _).setCell (by dsimp only; omega) _).setCell (by dsimp only; omega) _).setCell (by dsimp only; omega) _ | (refine hH.1.setCell ?_ _; dsimp only; omega))) (first | (go_at_call 70; ((with_reducible refine (hfind _ (bthen hB3.out (And.left ‹Below w3.heap.size w3 _ ∧ _›))).mono ?_); rintro e w6 ⟨rfl, hb6⟩; have hq := bcell hb6; obtain ⟨hqa, hqb⟩ := hq; have hqs := hb6.size; (try simp only [World.size_alloc, World.size_drew] at hqs))))
      all_goals
        go_wp2_with fail
        go_meet
        rename Below w3.heap.size w3 _ ∧ _ => hH
        refine ⟨_, rfl, rfl, by simp [go_sem, *], by simp [go_sem, *], by simp [go_sem, *], by simp [go_sem, *], by first | exact Nat.le_refl _ | omega | (simp only [World.size_alloc]; omega), hH.1⟩
    obtain ⟨B, rfl, rfl, u0, u1, u2, u3, hBl, hb5⟩ := hcut
    rename World => w5
    have hB5 := Lib.hid (bthen hB3.out hb5)
    clear hb5
    go_wp2_with fail
    go_ret2
    exact ⟨by rw [hf.out.1, hf.out.2]; rfl, hB5.out⟩
  · have hkn : (x.kind != 2) = false := by rw [bne, hkd]; rfl
    go_enter Tryz.func29, Tryz.ntmps29
    go_wp2_with fail
    have hc0 : (w.alloc (.cells #[.int .i64 wd, .slice (some ⟨b1, o1, none⟩) n c] 35)).cell? ⟨w.heap.size, 0, none⟩ = some (.int .i64 wd) := by simp [go_sem]
    have hc1 : (w.alloc (.cells #[.int .i64 wd, .slice (some ⟨b1, o1, none⟩) n c] 35)).cell? ⟨w.heap.size, 1, none⟩ = some (.slice (some ⟨b1, o1, none⟩) n c) := by simp [go_sem]
    generalize hW1 : (w.alloc (.cells #[.int .i64 wd, .slice (some ⟨b1, o1, none⟩) n c] 35)) = W1 at *
    (first | go_region_held3 (fun W => Below W1.heap.size W1 W ∧ W.cell? ⟨w.heap.size, 0, none⟩ = some (.int .i64 wd) ∧ W.cell? ⟨w.heap.size, 1, none⟩ = some (.slice (some ⟨b1, o1, none⟩) n c)) (first | exact held2 (below_drewN (Below.refl _ _) 1) hc0 hc1 | (rename Below W1.heap.size W1 _ ∧ _ => hH; refine held2 ?_ hc0 hc1; (refine bthen hH.1 ?_; assumption))) (first | (go_at_call 95; ((with_reducible refine (hdeck _ (bthen hb1.out (And.left ‹Below W1.heap.size W1 _ ∧ _›))).mono ?_); rintro e wq0 ⟨rfl, hbq1⟩)) | (go_at_call 68; ((with_reducible refine (hlay _ (bthen hb1.out (And.left ‹Below W1.heap.size W1 _ ∧ _›))).mono ?_); rintro e wq1 ⟨rfl, hbq2⟩))) | fail)
    have hHb := And.left ‹Below W1.heap.size W1 wq1 ∧ _›
    have hc0' := keep hHb hc0
    have hc1' := keep hHb hc1
    have hB := Lib.hid (bthen hb1.out hHb)
    go_wp2_with fail
    refine (hfind _ hB.out).mono ?_
    rintro e w3 ⟨rfl, hb⟩
    have hB3 := Lib.hid (bthen hB.out hb)
    have z0 := keep hb hc0'
    have z1 := keep hb hc1'
    have y0 := keep hB3.out q0
    have y1 := keep hB3.out q1
    have y2 := keep hB3.out q2
    have y3 := keep hB3.out q3
    clear hb hHb hc0 hc1 hc0' hc1' hW1 hb1 hbq1 hbq2
    go_upto_region 6 with (fail)
    go_cut [9, 10] from 29 to 35 (fun s9 s10 wx => ∃ B : Nat, s9 = .pointer (some ⟨B, 0, none⟩) ∧ s10 = .int .i64 0 ∧ wx.cell? ⟨B, 0, none⟩ = some (.string x.name) ∧ wx.cell? ⟨B, 1, none⟩ = some (.int .i64 x.kind) ∧ wx.cell? ⟨B, 2, none⟩ = some (.int .i64 x.fr) ∧ wx.cell? ⟨B, 3, none⟩ = some (.int .i64 x.to) ∧ w3.heap.size ≤ B ∧ Below w3.heap.size w3 wx)
    case first =>
      go_region_held3 (fun W => Below w3.heap.size w3 W ∧ W.cell? ⟨w.heap.size, 0, none⟩ = some (.int .i64 wd) ∧ W.cell? ⟨w.heap.size, 1, none⟩ = some (.slice (some ⟨b1, o1, none⟩) n c) ∧ W.cell? ⟨b1, o1 + k * 4, none⟩ = some (.string x.name) ∧ W.cell? ⟨b1, o1 + k * 4 + 1, none⟩ = some (.int .i64 x.kind) ∧ W.cell? ⟨b1, o1 + k * 4 + 2, none⟩ = some (.int .i64 x.fr) ∧ W.cell? ⟨b1, o1 + k * 4 + 3, none⟩ = some (.int .i64 x.to)) (first | exact held6 (below_drewN (Below.refl _ _) 1) z0 z1 y0 y1 y2 y3 | (rename Below w3.heap.size w3 _ ∧ _ => hH; refine held6 ?_ z0 z1 y0 y1 y2 y3; first | (refine bthen hH.1 ?_; assumption) | exact hH.1.alloc hH.1.size _ | (refine below_realloc hH.1 ?_; omega) | exact (((hH.1.setCell (by dsimp only; omega) _).setCell (by dsimp only; omega) _).setCell (by dsimp only; omega) _).setCell (by dsimp only; omega) _ | (refine hH.1.setCell ?_ _; dsimp only; omega))) (first | (go_at_call 70; ((with_reducible refine (hfind _ (bthen hB3.out (And.left ‹Below w3.heap.size w3 _ ∧ _›))).mono ?_); rintro e w6 ⟨rfl, hb6⟩; have hq := bcell hb6; obtain ⟨hqa, hqb⟩ := hq; have hqs := hb6.size; (try simp only [World.size_alloc, World.size_drew] at hqs))))
      all_goals
        go_wp2_with fail
        go_meet
        rename Below w3.heap.size w3 _ ∧ _ => hH
        refine ⟨_, rfl, rfl, by simp [go_sem, *], by simp [go_sem, *], by simp [go_sem, *], by simp [go_sem, *], by first | exact Nat.le_refl _ | omega | (simp only [World.size_alloc]; omega), hH.1⟩
    obtain ⟨B, rfl, rfl, u0, u1, u2, u3, hBl, hb5⟩ := hcut
    rename World => w5
    have hB5 := Lib.hid (bthen hB3.out hb5)
    clear hb5
    have hBlt : B < w5.heap.size := World.block_lt_of_cell? _ _ u2
    have hval : ∀ y ∈ xss, -1000000000000 ≤ valN x y ∧ valN x y ≤ 1000000000000 := fun y hym => by
      obtain ⟨j, hj⟩ := List.getElem?_of_mem hym
      obtain ⟨g1, g2, g3, g4⟩ := hcards.out j y hj x hmem.out
      have hlen := partL_length g3
      obtain ⟨t1, t2, t3⟩ := fieldB_yes g3
      have t4 := g4 (by simpa using hkd)
      exact numRes_bd (by omega) (by omega)
    have hsum := Lib.hid (sumN_bd hval)
    clear hval
    go_wp2_with fail
    go_loopw [10, 41] (fun sm i wr => ∃ j : Nat, j ≤ m ∧ i = .int .i64 j ∧ sm = .int .i64 (sumN x xss j) ∧ Hid ((xss.take j).all (okN x) = true) ∧ Below w5.heap.size w5 wr) (fun _ i _ => m - (intOf i).toNat)
    case atStart => exact ⟨0, by omega, rfl, by simp [sumN], Lib.hid rfl, Below.refl _ _⟩
    case round =>
      obtain ⟨j, hj, rfl, rfl, hall, hb⟩ := hrel
      by_cases hlt : j < m
      · obtain ⟨y, hyk⟩ := get_some (l := xss) (k := j) (by rw [hM'.out]; exact hlt)
        obtain ⟨b2, o2, a2, c2, rfl, e2, r2, l2, m2⟩ := (hys.out.kept (bthen hB5.out hb)).at hyk
        obtain ⟨g1, g2, g3, g4⟩ := hcards.out j y hyk x hmem.out
        have hl20 := validCard_len g1
        have t4 := g4 (by simpa using hkd)
        have hms := Lib.hid (valid_masks g1)
        have hsu := Lib.hid (sumN_succ (x := x) hyk)
        have hs0 := hsum.out j
        have hs1 := hsum.out (j + 1)
        rw [hsu.out] at hs1
        have hyk' := Lib.hid hyk
        have hsz := hb.size
        have hBlt' : B < wr.heap.size := by omega
        have hBne : ¬ B = wr.heap.size := by omega
        have v2 := keep hb u2
        have v3 := keep hb u3
        have hba := below_alloc (w := wr) (.cells #[.slice a2 y.length c2] 30)
        have hbx : (wr.alloc (.cells #[.slice a2 y.length c2] 30)).cell? ⟨wr.heap.size, 0, none⟩ = some (.slice a2 y.length c2) := by simp [go_sem]
        have v2' := keep hba v2
        have v3' := keep hba v3
        have hB7 := Lib.hid (bthen hb hba)
        have hr2 := r2.kept hba
        have hg3 := Lib.hid g3
        have hnum := Lib.hid (impl_numberIn a2 c2 y x.fr x.to _ hr2 (by omega) l2 g3 t4 hms.out)
        clear hyk g1 g2 g3 g4 hba
        have hj0 : (j : Int) < (m : Int) := by omega
        cases hok : okN x y
        · have hf := Lib.hid (h3.out _ hit'.out hkd (all_bad hyk'.out hok))
          go_wp2_with fail
          refine hnum.out.mono ?_
          rintro e w8 ⟨rfl, hb8⟩
          rw [show (numRes (partL y x.fr x.to)).2 = false from hok]
          go_wp2_with fail
          go_ret2
          exact ⟨by rw [hf.out.1, hf.out.2]; rfl, bthen hB5.out (bthen hB7.out hb8)⟩
        · have hnx := Lib.hid (all_more hyk'.out hall.out hok)
          go_wp2_with fail
          refine hnum.out.mono ?_
          rintro e w8 ⟨rfl, hb8⟩
          rw [show (numRes (partL y x.fr x.to)).2 = true from hok, show (numRes (partL y x.fr x.to)).1 = valN x y from rfl]
          go_wp2_with fail
          go_roundw
          case rel => exact ⟨j + 1, by omega, by go_num, by rw [hsu.out], hnx, bthen hB7.out hb8⟩
          case measure => simp [intOf]; omega
      · obtain rfl : j = m := by omega
        have hf := Lib.hid (h4.out _ hit'.out hkd (by have := hall.out; rwa [List.take_of_length_le (by rw [hM'.out]; omega)] at this))
        go_wp2_with fail
        go_ret2
        exact ⟨by rw [hf.out.1, hf.out.2]; rfl, bthen hB5.out hb⟩
end Go.Proofs.YtcbjfgjlhjjpiaaGreatDoor
namespace Go.Proofs.YtcbjfgjlhjjpiaaGreatDoor
open Go.RowKit
set_option maxRecDepth 100000
set_option linter.unusedVariables false
set_option linter.unusedSimpArgs false
set_option linter.unnecessarySimpa false

def dkC (wd : Int) (xs : List Itm) (xss : List (List Int)) (nm : ByteArray) : Int := if layI wd xs xss (validDeckL xss) == 0 then (if findI xs nm < 0 then 3 else 0) else layI wd xs xss (validDeckL xss)
def dkK (wd : Int) (xs : List Itm) (xss : List (List Int)) (nm : ByteArray) : Int := if layI wd xs xss (validDeckL xss) == 0 then (if findI xs nm < 0 then 0 else findI xs nm) else 0
theorem dk_no {wd : Int} {xs : List Itm} {xss : List (List Int)} (nm : ByteArray) {k : Int} (h : layI wd xs xss (validDeckL xss) = k) (hk : (k == 0) = false) : dkK wd xs xss nm = 0 ∧ dkC wd xs xss nm = k := by unfold dkK dkC; rw [h, hk]; exact ⟨rfl, rfl⟩
theorem dk_3 {wd : Int} {xs : List Itm} {xss : List (List Int)} {nm : ByteArray} (h : layI wd xs xss (validDeckL xss) = 0) (h2 : findI xs nm < 0) : dkK wd xs xss nm = 0 ∧ dkC wd xs xss nm = 3 := by unfold dkK dkC; rw [h]; simp [h2]
theorem dk_ok {wd : Int} {xs : List Itm} {xss : List (List Int)} {nm : ByteArray} (h : layI wd xs xss (validDeckL xss) = 0) (h2 : ¬ findI xs nm < 0) : dkK wd xs xss nm = findI xs nm ∧ dkC wd xs xss nm = 0 := by unfold dkK dkC; rw [h]; simp [h2]
set_option maxHeartbeats 2000000 in
theorem spec_l04Deck (B : Nat) (wd : Int) (a : Option Addr) (c : Nat) (xs : List Itm) (b : Option Addr) (d : Nat) (xss : List (List Int)) (nm : ByteArray) (w : World) (hca : w.cell? ⟨B, 0, none⟩ = some (.int .i64 wd)) (hcb : w.cell? ⟨B, 1, none⟩ = some (.slice a xs.length c)) (hx : RT w a xs) (hy : RD w b xss) (hn : itemsSz xs ≤ 1048576) (hn2 : deckSz xss ≤ 1048576) :
    Calls Tryz.prog 97 #[.pointer (some ⟨B, 0, none⟩), .slice b xss.length d, .string nm] w fun e w' => e = .returned (.tuple #[.int .i64 (dkK wd xs xss nm), .int .i64 (dkC wd xs xss nm)]) ∧ Below w.heap.size w w' := by
  have hok : ∀ W : World, Below w.heap.size w W → Calls Tryz.prog 86 #[.pointer (some ⟨B, 0, none⟩)] W fun e w' => e = .returned (.bool (validLayB wd xs)) ∧ Below W.heap.size W w' := fun W hW => spec_l04Ok B wd a c xs W (keep hW hca) (keep hW hcb) (hx.kept hW) hn
  have hdk : ∀ W : World, Below w.heap.size w W → Calls Tryz.prog 154 #[.slice b xss.length d] W fun e w' => e = .returned (.bool (validDeckL xss)) ∧ Below W.heap.size W w' := fun W hW => spec_l02Deck b d xss W (hy.kept hW) hn2
  have hfind : ∀ W : World, Below w.heap.size w W → Calls Tryz.prog 62 #[.pointer (some ⟨B, 0, none⟩), .string nm] W fun e w' => e = .returned (.int .i64 (findI xs nm)) ∧ Below W.heap.size W w' := fun W hW => spec_l04Find B wd a c xs nm W (keep hW hcb) (hx.kept hW) hn
  cases hv : validLayB wd xs
  · have hf := Lib.hid (dk_no nm (lay_1 xss (validDeckL xss) hv) rfl)
    rw [hv] at hok
    go_enter Tryz.func97, Tryz.ntmps97
    go_wp2_with fail
    refine (hok _ (Below.refl _ _)).mono ?_
    rintro e w2 ⟨rfl, hb⟩
    go_wp2_with fail
    go_ret2
    exact ⟨by rw [hf.out.1, hf.out.2]; rfl, hb⟩
  rw [hv] at hok
  cases hv2 : validDeckL xss
  · have hf := Lib.hid (dk_no (k := 1) nm (by rw [hv2]; exact lay_2 wd xs xss) rfl)
    rw [hv2] at hdk
    go_enter Tryz.func97, Tryz.ntmps97
    go_wp2_with fail
    refine (hok _ (Below.refl _ _)).mono ?_
    rintro e w2 ⟨rfl, hb⟩
    go_wp2_with fail
    refine (hdk _ hb).mono ?_
    rintro e w3 ⟨rfl, hb3⟩
    go_wp2_with fail
    go_ret2
    exact ⟨by rw [hf.out.1, hf.out.2]; rfl, bthen hb hb3⟩
  rw [hv2] at hdk
  cases xss with
  | nil =>
    have hl0 : layI wd xs [] (validDeckL []) = 0 := by rw [hv2]; exact lay_nil hv
    have hf3 := Lib.hid (fun (h : findI xs nm < 0) => dk_3 (nm := nm) hl0 h)
    have hf0 := Lib.hid (fun (h : ¬ findI xs nm < 0) => dk_ok (nm := nm) hl0 h)
    have hd1 : decide ((0 : Int) < (([] : List (List Int)).length : Int)) = false := rfl
    have hd2 : decide (0 < ([] : List (List Int)).length) = false := rfl
    clear hl0
    go_enter Tryz.func97, Tryz.ntmps97
    go_wp2_with fail
    refine (hok _ (Below.refl _ _)).mono ?_
    rintro e w2 ⟨rfl, hb⟩
    go_wp2_with fail
    refine (hdk _ hb).mono ?_
    rintro e w3 ⟨rfl, hb'⟩
    have hb3 := bthen hb hb'
    have k0 := keep hb3 hca
    have k1 := keep hb3 hcb
    clear hb hb'
    go_wp2_with fail
    first | go_quiet (fail) | fail
    by_cases hneg : findI xs nm < 0
    · have hf := hf3.out hneg
      go_wp2_with fail
      refine (hfind _ (by first | exact below_drewN hb3 _ | exact hb3)).mono ?_
      rintro e w4 ⟨rfl, hb4⟩
      go_wp2_with fail
      go_ret2
      exact ⟨by rw [hf.1, hf.2]; rfl, bthen (by first | exact below_drewN hb3 _ | exact hb3) hb4⟩
    · have hf := hf0.out (by first | exact hneg | omega)
      go_wp2_with fail
      refine (hfind _ (by first | exact below_drewN hb3 _ | exact hb3)).mono ?_
      rintro e w4 ⟨rfl, hb4⟩
      go_wp2_with fail
      go_ret2
      exact ⟨by rw [hf.1, hf.2]; rfl, bthen (by first | exact below_drewN hb3 _ | exact hb3) hb4⟩
  | cons x r =>
    obtain ⟨b1, o1, a1, c1, rfl, hcx, hrx, hcx1, hcx2⟩ := hy.at (k := 0) (xs := x) rfl
    rw [Nat.add_zero] at hcx
    have hd1 : decide ((0 : Int) < ((x :: r).length : Int)) = true := by first | (simp; done) | (simp; omega)
    have hd2 : decide (0 < (x :: r).length) = true := by simp
    have hd3 : (0 : Int) < ((x :: r).length : Int) := by first | (simp; done) | (simp; omega)
    have hd4 : 0 < (x :: r).length := by simp
    clear hy hn2
    by_cases he : (x.length : Int) = wd
    · have hl0 : layI wd xs (x :: r) (validDeckL (x :: r)) = 0 := by rw [hv2]; exact lay_ok hv he
      have hf3 := Lib.hid (fun (h : findI xs nm < 0) => dk_3 (nm := nm) hl0 h)
      have hf0 := Lib.hid (fun (h : ¬ findI xs nm < 0) => dk_ok (nm := nm) hl0 h)
      have hne : ((x.length : Int) != wd) = false := by simp [he]
      clear hl0 he
      generalize hQ : (x :: r).length = q at *
      clear hQ
      go_enter Tryz.func97, Tryz.ntmps97
      go_wp2_with fail
      refine (hok _ (Below.refl _ _)).mono ?_
      rintro e w2 ⟨rfl, hb⟩
      go_wp2_with fail
      refine (hdk _ hb).mono ?_
      rintro e w3 ⟨rfl, hb'⟩
      have hb3 := bthen hb hb'
      have k0 := keep hb3 hca
      have k1 := keep hb3 hcb
      have kx := keep hb3 hcx
      clear hb hb'
      go_wp2_with fail
      first | go_quiet (fail) | fail
      by_cases hneg : findI xs nm < 0
      · have hf := hf3.out hneg
        go_wp2_with fail
        refine (hfind _ (by first | exact below_drewN hb3 _ | exact hb3)).mono ?_
        rintro e w4 ⟨rfl, hb4⟩
        go_wp2_with fail
        go_ret2
        exact ⟨by rw [hf.1, hf.2]; rfl, bthen (by first | exact below_drewN hb3 _ | exact hb3) hb4⟩
      · have hf := hf0.out (by first | exact hneg | omega)
        go_wp2_with fail
        refine (hfind _ (by first | exact below_drewN hb3 _ | exact hb3)).mono ?_
        rintro e w4 ⟨rfl, hb4⟩
        go_wp2_with fail
        go_ret2
        exact ⟨by rw [hf.1, hf.2]; rfl, bthen (by first | exact below_drewN hb3 _ | exact hb3) hb4⟩
    · have hf := Lib.hid (dk_no nm (k := 2) (by rw [hv2]; exact lay_not (r := r) hv he) rfl)
      have hne : ((x.length : Int) != wd) = true := by simp [he]
      clear he
      generalize hQ : (x :: r).length = q at *
      clear hQ
      go_enter Tryz.func97, Tryz.ntmps97
      go_wp2_with fail
      refine (hok _ (Below.refl _ _)).mono ?_
      rintro e w2 ⟨rfl, hb⟩
      go_wp2_with fail
      refine (hdk _ hb).mono ?_
      rintro e w3 ⟨rfl, hb'⟩
      have hb3 := bthen hb hb'
      have k0 := keep hb3 hca
      have k1 := keep hb3 hcb
      have kx := keep hb3 hcx
      clear hb hb'
      go_wp2_with fail
      first | go_quiet (fail) | fail
      go_wp2_with fail
      go_ret2
      exact ⟨by rw [hf.out.1, hf.out.2]; rfl, by first | exact below_drewN hb3 _ | exact hb3⟩
theorem tot_dk {wd : Int} {xs : List Itm} {xss : List (List Int)} {nm : ByteArray} (h : (dkC wd xs xss nm == 0) = false) : totI wd xs xss nm = 0 ∧ totCode wd xs xss nm = dkC wd xs xss nm := by
  cases hL : (layI wd xs xss (validDeckL xss) == 0)
  · have h1 := tot_lay nm hL
    have h2 := dk_no nm (rfl : layI wd xs xss (validDeckL xss) = layI wd xs xss (validDeckL xss)) hL
    rw [h2.2]; exact h1
  · have hL0 : layI wd xs xss (validDeckL xss) = 0 := by simpa using hL
    by_cases hneg : findI xs nm < 0
    · have h1 := tot_3 (nm := nm) hL0 (item_none hneg)
      have h2 := dk_3 (nm := nm) hL0 hneg
      rw [h2.2]; exact h1
    · have h2 := dk_ok (nm := nm) hL0 hneg
      rw [h2.2] at h; simp at h
theorem dk_zero {wd : Int} {xs : List Itm} {xss : List (List Int)} {nm : ByteArray} (h : (dkC wd xs xss nm == 0) = true) : layI wd xs xss (validDeckL xss) = 0 ∧ ¬ findI xs nm < 0 := by
  cases hL : (layI wd xs xss (validDeckL xss) == 0)
  · have h2 := dk_no nm (rfl : layI wd xs xss (validDeckL xss) = layI wd xs xss (validDeckL xss)) hL
    rw [h2.2, hL] at h; simp at h
  · have hL0 : layI wd xs xss (validDeckL xss) = 0 := by simpa using hL
    refine ⟨hL0, fun hneg => ?_⟩
    have h2 := dk_3 (nm := nm) hL0 hneg
    rw [h2.2] at h; simp at h
set_option maxHeartbeats 2000000 in
theorem spec_ItemTotal (wd : Int) (a : Option Addr) (c : Nat) (xs : List Itm) (b : Option Addr) (d : Nat) (xss : List (List Int)) (nm : ByteArray) (w : World) (hx : RT w a xs) (hy : RD w b xss) (hn : itemsSz xs ≤ 1048576) (hcap : xs.length ≤ c) (hn2 : deckSz xss ≤ 1048576) (hnm : nm.size ≤ 1048576) :
    Calls Tryz.prog 30 #[.agg #[.int .i64 wd, .slice a xs.length c], .slice b xss.length d, .string nm] w fun e w' => e = .returned (.tuple #[.int .i64 (totI wd xs xss nm), .int .i64 (totCode wd xs xss nm)]) ∧ Below w.heap.size w w' := by
  have hb1 := Lib.hid (below_alloc (w := w) (.cells #[.int .i64 wd, .slice a xs.length c] 35))
  have hc0 : (w.alloc (.cells #[.int .i64 wd, .slice a xs.length c] 35)).cell? ⟨w.heap.size, 0, none⟩ = some (.int .i64 wd) := by simp [go_sem]
  have hc1 : (w.alloc (.cells #[.int .i64 wd, .slice a xs.length c] 35)).cell? ⟨w.heap.size, 1, none⟩ = some (.slice a xs.length c) := by simp [go_sem]
  have hdk := Lib.hid (spec_l04Deck w.heap.size wd a c xs b d xss nm _ hc0 hc1 (hx.kept hb1.out) (hy.kept hb1.out) hn hn2)
  cases hL : (dkC wd xs xss nm == 0)
  · have hf := Lib.hid (tot_dk hL)
    have hne : (dkC wd xs xss nm != 0) = true := by rw [bne, hL]; rfl
    clear hc0 hc1
    go_enter Tryz.func30, Tryz.ntmps30
    go_wp2_with fail
    refine hdk.out.mono ?_
    rintro e w2 ⟨rfl, hb⟩
    go_wp2_with fail
    go_ret2
    exact ⟨by rw [hf.out.1, hf.out.2]; rfl, bthen hb1.out hb⟩
  obtain ⟨hL0, hneg⟩ := dk_zero hL
  have hdz := dk_ok (nm := nm) hL0 hneg
  obtain ⟨k, x, hk, hxk, hit⟩ := item_some hneg
  rw [hdz.1, hdz.2, hk] at hdk
  have hcards := Lib.hid (fun (k : Nat) (y : List Int) (hk : xss[k]? = some y) (x : Itm) (hxm : x ∈ xs) => lay_card hL0 hk hxm)
  have hd40 := deck_len (lay_zero hL0).2.1
  have h2 := Lib.hid (fun (x : Itm) h2 h3 => tot_6 (nm := nm) (x := x) hL0 h2 h3)
  have h3 := Lib.hid (fun (x : Itm) h2 h3 h4 => tot_8 (nm := nm) (x := x) hL0 h2 h3 h4)
  have h4 := Lib.hid (fun (x : Itm) h2 h3 h4 => tot_ok (nm := nm) (x := x) hL0 h2 h3 h4)
  have hys := Lib.hid hy
  obtain ⟨b1, o1, rfl, q0, q1, q2, q3⟩ := hx.at hxk
  have hkl : k < xs.length := (List.getElem?_eq_some_iff.1 hxk).1
  have hmem := Lib.hid (List.mem_of_getElem? hxk)
  have hit' := Lib.hid hit
  clear hL hL0 hdz hneg hk hxk hit hx hy hn2
  generalize hN : xs.length = n at *
  have hN' := Lib.hid hN
  generalize hM : xss.length = m at *
  have hM' := Lib.hid hM
  clear hN hM
  cases hkd : (x.kind == 2)
  · have hf := Lib.hid (h2.out _ hit'.out hkd)
    have hkn : (x.kind != 2) = true := by rw [bne, hkd]; rfl
    go_enter Tryz.func30, Tryz.ntmps30
    go_wp2_with fail
    refine hdk.out.mono ?_
    rintro e w2 ⟨rfl, hb⟩
    have hB2 := Lib.hid (bthen hb1.out hb)
    have z0 := keep hb hc0
    have z1 := keep hb hc1
    have y0 := keep hB2.out q0
    have y1 := keep hB2.out q1
    have y2 := keep hB2.out q2
    have y3 := keep hB2.out q3
    clear hb
    go_wp2_with fail
    go_ret2
    exact ⟨by rw [hf.out.1, hf.out.2]; rfl, hB2.out⟩
  · have hkn : (x.kind != 2) = false := by rw [bne, hkd]; rfl
    have hval : ∀ y ∈ xss, -1000000000000 ≤ valN x y ∧ valN x y ≤ 1000000000000 := fun y hym => by
      obtain ⟨j, hj⟩ := List.getElem?_of_mem hym
      obtain ⟨g1, g2, g3, g4⟩ := hcards.out j y hj x hmem.out
      have hlen := partL_length g3
      obtain ⟨t1, t2, t3⟩ := fieldB_yes g3
      have t4 := g4 (by simpa using hkd)
      exact numRes_bd (by omega) (by omega)
    have hsum := Lib.hid (sumN_bd hval)
    clear hval
    go_enter Tryz.func30, Tryz.ntmps30
    go_wp2_with fail
    refine hdk.out.mono ?_
    rintro e w2 ⟨rfl, hb⟩
    have hB2 := Lib.hid (bthen hb1.out hb)
    have z0 := keep hb hc0
    have z1 := keep hb hc1
    have y0 := keep hB2.out q0
    have y1 := keep hB2.out q1
    have y2 := keep hB2.out q2
    have y3 := keep hB2.out q3
    clear hb
    go_wp2_with fail
    go_loopw [10, 11] (fun sm i wr => ∃ j : Nat, j ≤ m ∧ i = .int .i64 j ∧ sm = .int .i64 (sumN x xss j) ∧ Hid ((xss.take j).all (okN x) = true) ∧ Below w2.heap.size w2 wr) (fun _ i _ => m - (intOf i).toNat)
    case atStart => exact ⟨0, by omega, rfl, by simp [sumN], Lib.hid rfl, Below.refl _ _⟩
    case round =>
      obtain ⟨j, hj, rfl, rfl, hall, hb⟩ := hrel
      by_cases hlt : j < m
      · obtain ⟨y, hyk⟩ := get_some (l := xss) (k := j) (by rw [hM'.out]; exact hlt)
        obtain ⟨b2, o2, a2, c2, rfl, e2, r2, l2, m2⟩ := (hys.out.kept (bthen hB2.out hb)).at hyk
        obtain ⟨g1, g2, g3, g4⟩ := hcards.out j y hyk x hmem.out
        have hl20 := validCard_len g1
        have t4 := g4 (by simpa using hkd)
        have hms := Lib.hid (valid_masks g1)
        have hsu := Lib.hid (sumN_succ (x := x) hyk)
        have hs0 := hsum.out j
        have hs1 := hsum.out (j + 1)
        rw [hsu.out] at hs1
        have hyk' := Lib.hid hyk
        have v1 := keep hb z1
        have v2 := keep hb y2
        have v3 := keep hb y3
        obtain ⟨t1, t2, t3⟩ := fieldB_yes g3
        have hlen := partL_length g3
        have hpart : ∀ W : World, Below wr.heap.size wr W → Calls Tryz.prog 99 #[.pointer (some ⟨b2, o2 + j, none⟩), .agg #[.int .i64 x.fr, .int .i64 x.to]] W fun e w' => ∃ a' c', e = .returned (.slice a' (partL y x.fr x.to).length c') ∧ RI w' a' (partL y x.fr x.to) ∧ Below W.heap.size W w' := fun W hW => spec_l02Part_at b2 (o2 + j) a2 c2 y x.fr x.to W (keep hW e2) (r2.kept hW) (small (by omega)) l2 g3
        have hnum : ∀ (W : World) (a' : Option Addr) (c' : Nat), RI W a' (partL y x.fr x.to) → Calls Tryz.prog 98 #[.slice a' (partL y x.fr x.to).length c'] W fun e w' => e = .returned (.tuple #[.int .i64 (valN x y), .bool (okN x y)]) ∧ Below W.heap.size W w' := fun W a' c' hr => (spec_l03Number a' c' _ W hr (by omega) (by omega) (fun q hq => hms.out q (List.mem_of_mem_drop (List.mem_of_mem_take hq)))).mono fun _ _ h => ⟨h.1, h.2 ▸ Below.refl _ _⟩
        clear hyk g1 g2 g3 g4 t1 t2 t3 t4 hlen
        have hj0 : (j : Int) < (m : Int) := by omega
        cases hok : okN x y
        · have hf := Lib.hid (h3.out _ hit'.out hkd (all_bad hyk'.out hok))
          rw [hok] at hnum
          go_wp2_with fail
          (first | go_region_held3 (fun W => Below wr.heap.size wr W ∧ W.cell? ⟨w.heap.size, 1, none⟩ = some (.slice (some ⟨b1, o1, none⟩) n c) ∧ W.cell? ⟨b1, o1 + k * 4 + 2, none⟩ = some (.int .i64 x.fr) ∧ W.cell? ⟨b1, o1 + k * 4 + 3, none⟩ = some (.int .i64 x.to)) (first | exact held3 (below_drewN (Below.refl _ _) 1) v1 v2 v3 | (rename Below wr.heap.size wr _ ∧ _ => hH; refine held3 ?_ v1 v2 v3; (refine bthen hH.1 ?_; assumption))) (first | (go_at_call 99; ((with_reducible refine (hpart _ (And.left ‹Below wr.heap.size wr _ ∧ _›)).mono ?_); rintro e wq0 ⟨a5, c5, rfl, hr5, hbq5⟩)) | (go_at_call 98; ((with_reducible refine (hnum _ a5 c5 hr5).mono ?_); rintro e wq1 ⟨rfl, hbq6⟩))) | fail)
          all_goals
            have hHb := And.left ‹Below wr.heap.size wr _ ∧ _›
            go_wp2_with fail
            go_ret2
            exact ⟨by rw [hf.out.1, hf.out.2]; rfl, bthen hB2.out (bthen hb hHb)⟩
        · have hnx := Lib.hid (all_more hyk'.out hall.out hok)
          rw [hok] at hnum
          go_wp2_with fail
          (first | go_region_held3 (fun W => Below wr.heap.size wr W ∧ W.cell? ⟨w.heap.size, 1, none⟩ = some (.slice (some ⟨b1, o1, none⟩) n c) ∧ W.cell? ⟨b1, o1 + k * 4 + 2, none⟩ = some (.int .i64 x.fr) ∧ W.cell? ⟨b1, o1 + k * 4 + 3, none⟩ = some (.int .i64 x.to)) (first | exact held3 (below_drewN (Below.refl _ _) 1) v1 v2 v3 | (rename Below wr.heap.size wr _ ∧ _ => hH; refine held3 ?_ v1 v2 v3; (refine bthen hH.1 ?_; assumption))) (first | (go_at_call 99; ((with_reducible refine (hpart _ (And.left ‹Below wr.heap.size wr _ ∧ _›)).mono ?_); rintro e wq0 ⟨a5, c5, rfl, hr5, hbq5⟩)) | (go_at_call 98; ((with_reducible refine (hnum _ a5 c5 hr5).mono ?_); rintro e wq1 ⟨rfl, hbq6⟩))) | fail)
          all_goals
            have hHb := And.left ‹Below wr.heap.size wr _ ∧ _›
            go_wp2_with fail
            go_roundw
            case rel => exact ⟨j + 1, by omega, by go_num, by rw [hsu.out], hnx, bthen hb hHb⟩
            case measure => simp [intOf]; omega
      · obtain rfl : j = m := by omega
        have hf := Lib.hid (h4.out _ hit'.out hkd (by have := hall.out; rwa [List.take_of_length_le (by rw [hM'.out]; omega)] at this))
        go_wp2_with fail
        go_ret2
        exact ⟨by rw [hf.out.1, hf.out.2]; rfl, bthen hB2.out hb⟩
end Go.Proofs.YtcbjfgjlhjjpiaaGreatDoor
