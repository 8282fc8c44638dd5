/- The walk of impl.ItemTotal: what it returns, and that memory has at most new blocks. -/
import Derived.Test.YtcbjfgjlhjjpiaaGreatDoorTot
namespace Go.Proofs.YtcbjfgjlhjjpiaaGreatDoor
open Go.RowKit
set_option maxRecDepth 100000
set_option linter.unusedVariables false
set_option linter.unusedSimpArgs false
set_option linter.unnecessarySimpa false

theorem RD.x {w : World} {a : Option Addr} {xss : List (List Int)} (h : RD w a xss) : RDx w a xss := fun k x hk => by
  obtain ⟨b, o, a', c', h1, h2, h3, _, _⟩ := h.at hk
  exact ⟨b, o, a', c', h1, h2, h3⟩
theorem deckSz_all {xss : List (List Int)} (h : deckSz xss ≤ 1048576) : ∀ x ∈ xss, x.length ≤ 1048576 := fun x hx => by
  obtain ⟨k, hk⟩ := List.getElem?_of_mem hx
  have := deckSz_at hk
  omega
theorem all_bad {p : List Int → Bool} {xss : List (List Int)} {k : Nat} {y : List Int} (h : xss[k]? = some y) (hp : p y = false) : xss.all p = false := by
  rw [List.all_eq_false]; exact ⟨y, List.mem_of_getElem? h, by simp [hp]⟩
theorem all_more {p : List Int → Bool} {xss : List (List Int)} {k : Nat} {y : List Int} (h : xss[k]? = some y) (ha : (xss.take k).all p = true) (hp : p y = true) : (xss.take (k + 1)).all p = true := by
  rw [List.take_add_one, h]; simp [ha, hp]
set_option maxHeartbeats 2000000 in
theorem impl_ItemTotal (wd : Int) (a : Option Addr) (c : Nat) (xs : List Itm) (b : Option Addr) (d : Nat) (xss : List (List Int)) (nm : ByteArray) (w : World) (hx : RT w a xs) (hy : RD w b xss) (hn : itemsSz xs ≤ 1048576) (hcap : xs.length ≤ c) (hn2 : deckSz xss ≤ 1048576) (hnm : nm.size ≤ 1048576) :
    Calls Tryz.prog 29 #[.agg #[.int .i64 wd, .slice a xs.length c], .slice b xss.length d, .string nm] w fun e w' => e = .returned (.tuple #[.int .i64 (totI wd xs xss nm), .int .i64 (totCode wd xs xss nm)]) ∧ Below w.heap.size w w' := by
  have hb1 := Lib.hid (below_alloc (w := w) (.cells #[.int .i64 wd, .slice a xs.length c] 35))
  have hlay : ∀ W : World, Below w.heap.size w W → Calls Tryz.prog 68 #[.agg #[.int .i64 wd, .slice a xs.length c], .slice b xss.length d, .bool (validDeckL xss)] W fun e w' => e = .returned (.int .i64 (layI wd xs xss (validDeckL xss))) ∧ Below W.heap.size W w' := fun W hW => impl_layoutCode wd a c xs b d xss _ W (hx.kept hW) (hy.x.kept hW) hn hcap (by have := deckSz_len xss; omega) (deckSz_all hn2)
  have hdeck : ∀ W : World, Below w.heap.size w W → Calls Tryz.prog 95 #[.slice b xss.length d] W fun e w' => e = .returned (.bool (validDeckL xss)) ∧ Below W.heap.size W w' := fun W hW => impl_ValidDeck b d xss W (hy.kept hW) hn2
  have hfind : ∀ W : World, Below w.heap.size w W → Calls Tryz.prog 70 #[.agg #[.int .i64 wd, .slice a xs.length c], .string nm] W fun e w' => e = .returned (.int .i64 (findI xs nm)) ∧ Below W.heap.size W w' := fun W hW => impl_itemIndex wd a c xs nm W (hx.kept hW) hn
  cases hL : (layI wd xs xss (validDeckL xss) == 0)
  · have hf := Lib.hid (tot_lay nm hL)
    have hne : (layI wd xs xss (validDeckL xss) != 0) = true := by rw [bne, hL]; rfl
    generalize layI wd xs xss (validDeckL xss) = L at *
    go_enter Tryz.func29, Tryz.ntmps29
    go_wp2_with fail
    have hc0 : (w.alloc (.cells #[.int .i64 wd, .slice a xs.length c] 35)).cell? ⟨w.heap.size, 0, none⟩ = some (.int .i64 wd) := by simp [go_sem]
    have hc1 : (w.alloc (.cells #[.int .i64 wd, .slice a xs.length c] 35)).cell? ⟨w.heap.size, 1, none⟩ = some (.slice a xs.length c) := by simp [go_sem]
    generalize hW1 : (w.alloc (.cells #[.int .i64 wd, .slice a xs.length c] 35)) = W1 at *
    (first | go_region_held3 (fun W => Below W1.heap.size W1 W ∧ W.cell? ⟨w.heap.size, 0, none⟩ = some (.int .i64 wd) ∧ W.cell? ⟨w.heap.size, 1, none⟩ = some (.slice a xs.length c)) (first | exact held2 (below_drewN (Below.refl _ _) 1) hc0 hc1 | (rename Below W1.heap.size W1 _ ∧ _ => hH; refine held2 ?_ hc0 hc1; (refine bthen hH.1 ?_; assumption))) (first | (go_at_call 95; ((with_reducible refine (hdeck _ (bthen hb1.out (And.left ‹Below W1.heap.size W1 _ ∧ _›))).mono ?_); rintro e wq0 ⟨rfl, hbq⟩)) | (go_at_call 68; ((with_reducible refine (hlay _ (bthen hb1.out (And.left ‹Below W1.heap.size W1 _ ∧ _›))).mono ?_); rintro e wq1 ⟨rfl, hbq⟩))) | fail)
    all_goals
      have hHb := And.left ‹Below W1.heap.size W1 _ ∧ _›
      go_wp2_with fail
      go_ret2
      exact ⟨by rw [hf.out.1, hf.out.2]; rfl, bthen hb1.out hHb⟩
  have hL0 : layI wd xs xss (validDeckL xss) = 0 := by simpa using hL
  rw [hL0] at hlay
  have hcards := Lib.hid (fun (k : Nat) (y : List Int) (hk : xss[k]? = some y) (x : Itm) (hxm : x ∈ xs) => lay_card hL0 hk hxm)
  have hd40 := deck_len (lay_zero hL0).2.1
  have h1 := Lib.hid (fun h2 => tot_3 (nm := nm) hL0 h2)
  have h2 := Lib.hid (fun (x : Itm) h2 h3 => tot_6 (nm := nm) (x := x) hL0 h2 h3)
  have h3 := Lib.hid (fun (x : Itm) h2 h3 h4 => tot_8 (nm := nm) (x := x) hL0 h2 h3 h4)
  have h4 := Lib.hid (fun (x : Itm) h2 h3 h4 => tot_ok (nm := nm) (x := x) hL0 h2 h3 h4)
  clear hL hL0
  have hxs := Lib.hid hx
  have hys := Lib.hid hy
  have hsz := Lib.hid hn2
  by_cases hneg : findI xs nm < 0
  · have hf := Lib.hid (h1.out (item_none hneg))
    clear hy hx hn2
    go_enter Tryz.func29, Tryz.ntmps29
    go_wp2_with fail
    have hc0 : (w.alloc (.cells #[.int .i64 wd, .slice a xs.length c] 35)).cell? ⟨w.heap.size, 0, none⟩ = some (.int .i64 wd) := by simp [go_sem]
    have hc1 : (w.alloc (.cells #[.int .i64 wd, .slice a xs.length c] 35)).cell? ⟨w.heap.size, 1, none⟩ = some (.slice a xs.length c) := by simp [go_sem]
    generalize hW1 : (w.alloc (.cells #[.int .i64 wd, .slice a xs.length c] 35)) = W1 at *
    (first | go_region_held3 (fun W => Below W1.heap.size W1 W ∧ W.cell? ⟨w.heap.size, 0, none⟩ = some (.int .i64 wd) ∧ W.cell? ⟨w.heap.size, 1, none⟩ = some (.slice a xs.length c)) (first | exact held2 (below_drewN (Below.refl _ _) 1) hc0 hc1 | (rename Below W1.heap.size W1 _ ∧ _ => hH; refine held2 ?_ hc0 hc1; (refine bthen hH.1 ?_; assumption))) (first | (go_at_call 95; ((with_reducible refine (hdeck _ (bthen hb1.out (And.left ‹Below W1.heap.size W1 _ ∧ _›))).mono ?_); rintro e wq0 ⟨rfl, hbq1⟩)) | (go_at_call 68; ((with_reducible refine (hlay _ (bthen hb1.out (And.left ‹Below W1.heap.size W1 _ ∧ _›))).mono ?_); rintro e wq1 ⟨rfl, hbq2⟩))) | fail)
    have hHb := And.left ‹Below W1.heap.size W1 wq1 ∧ _›
    have hc0' := keep hHb hc0
    have hc1' := keep hHb hc1
    have hB := Lib.hid (bthen hb1.out hHb)
    go_wp2_with fail
    refine (hfind _ hB.out).mono ?_
    rintro e w3 ⟨rfl, hb⟩
    go_wp2_with fail
    go_ret2
    exact ⟨by rw [hf.out.1, hf.out.2]; rfl, bthen hB.out hb⟩
  obtain ⟨k, x, hk, hxk, hit⟩ := item_some hneg
  rw [hk] at hfind
  obtain ⟨b1, o1, rfl, q0, q1, q2, q3⟩ := hx.at hxk
  have hkl : k < xs.length := (List.getElem?_eq_some_iff.1 hxk).1
  have hmem := Lib.hid (List.mem_of_getElem? hxk)
  have hit' := Lib.hid hit
  have hk0 : ¬ (k : Int) < 0 := by omega
  clear hneg hk hxk hit hx
  generalize hN : xs.length = n at *
  have hN' := Lib.hid hN
  clear hN hy hn2 hxs
  generalize hM : xss.length = m at *
  have hM' := Lib.hid hM
  clear hM
  cases hkd : (x.kind == 2)
  · have hf := Lib.hid (h2.out _ hit'.out hkd)
    have hkn : (x.kind != 2) = true := by rw [bne, hkd]; rfl
    go_enter Tryz.func29, Tryz.ntmps29
    go_wp2_with fail
    have hc0 : (w.alloc (.cells #[.int .i64 wd, .slice (some ⟨b1, o1, none⟩) n c] 35)).cell? ⟨w.heap.size, 0, none⟩ = some (.int .i64 wd) := by simp [go_sem]
    have hc1 : (w.alloc (.cells #[.int .i64 wd, .slice (some ⟨b1, o1, none⟩) n c] 35)).cell? ⟨w.heap.size, 1, none⟩ = some (.slice (some ⟨b1, o1, none⟩) n c) := by simp [go_sem]
    generalize hW1 : (w.alloc (.cells #[.int .i64 wd, .slice (some ⟨b1, o1, none⟩) n c] 35)) = W1 at *
    (first | go_region_held3 (fun W => Below W1.heap.size W1 W ∧ W.cell? ⟨w.heap.size, 0, none⟩ = some (.int .i64 wd) ∧ W.cell? ⟨w.heap.size, 1, none⟩ = some (.slice (some ⟨b1, o1, none⟩) n c)) (first | exact held2 (below_drewN (Below.refl _ _) 1) hc0 hc1 | (rename Below W1.heap.size W1 _ ∧ _ => hH; refine held2 ?_ hc0 hc1; (refine bthen hH.1 ?_; assumption))) (first | (go_at_call 95; ((with_reducible refine (hdeck _ (bthen hb1.out (And.left ‹Below W1.heap.size W1 _ ∧ _›))).mono ?_); rintro e wq0 ⟨rfl, hbq1⟩)) | (go_at_call 68; ((with_reducible refine (hlay _ (bthen hb1.out (And.left ‹Below W1.heap.size W1 _ ∧ _›))).mono ?_); rintro e wq1 ⟨rfl, hbq2⟩))) | fail)
    have hHb := And.left ‹Below W1.heap.size W1 wq1 ∧ _›
    have hc0' := keep hHb hc0
    have hc1' := keep hHb hc1
    have hB := Lib.hid (bthen hb1.out hHb)
    go_wp2_with fail
    refine (hfind _ hB.out).mono ?_
    rintro e w3 ⟨rfl, hb⟩
    have hB3 := Lib.hid (bthen hB.out hb)
    have z0 := keep hb hc0'
    have z1 := keep hb hc1'
    have y0 := keep hB3.out q0
    have y1 := keep hB3.out q1
    have y2 := keep hB3.out q2
    have y3 := keep hB3.out q3
    clear hb hHb hc0 hc1 hc0' hc1' hW1 hb1 hbq1 hbq2
    go_upto_region 6 with (fail)
    go_cut [9, 10] from 29 to 35 (fun s9 s10 wx => ∃ B : Nat, s9 = .pointer (some ⟨B, 0, none⟩) ∧ s10 = .int .i64 0 ∧ wx.cell? ⟨B, 0, none⟩ = some (.string x.name) ∧ wx.cell? ⟨B, 1, none⟩ = some (.int .i64 x.kind) ∧ wx.cell? ⟨B, 2, none⟩ = some (.int .i64 x.fr) ∧ wx.cell? ⟨B, 3, none⟩ = some (.int .i64 x.to) ∧ w3.heap.size ≤ B ∧ Below w3.heap.size w3 wx)
    case first =>
      go_region_held3 (fun W => Below w3.heap.size w3 W ∧ W.cell? ⟨w.heap.size, 0, none⟩ = some (.int .i64 wd) ∧ W.cell? ⟨w.heap.size, 1, none⟩ = some (.slice (some ⟨b1, o1, none⟩) n c) ∧ W.cell? ⟨b1, o1 + k * 4, none⟩ = some (.string x.name) ∧ W.cell? ⟨b1, o1 + k * 4 + 1, none⟩ = some (.int .i64 x.kind) ∧ W.cell? ⟨b1, o1 + k * 4 + 2, none⟩ = some (.int .i64 x.fr) ∧ W.cell? ⟨b1, o1 + k * 4 + 3, none⟩ = some (.int .i64 x.to)) (first | exact held6 (below_drewN (Below.refl _ _) 1) z0 z1 y0 y1 y2 y3 | (rename Below w3.heap.size w3 _ ∧ _ => hH; refine held6 ?_ z0 z1 y0 y1 y2 y3; first | (refine bthen hH.1 ?_; assumption) | exact hH.1.alloc hH.1.size _ | (refine below_realloc hH.1 ?_; omega) | exact (((hH.1.setCell (by dsimp only; omega) _).setCell (by dsimp only; omega) _).setCell (by dsimp only; omega) _).setCell (by dsimp only; omega) _ | (refine hH.1.setCell ?_ _; dsimp only; omega))) (first | (go_at_call 70; ((with_reducible refine (hfind _ (bthen hB3.out (And.left ‹Below w3.heap.size w3 _ ∧ _›))).mono ?_); rintro e w6 ⟨rfl, hb6⟩; have hq := bcell hb6; obtain ⟨hqa, hqb⟩ := hq; have hqs := hb6.size; (try simp only [World.size_alloc, World.size_drew] at hqs))))
      all_goals
        go_wp2_with fail
        go_meet
        rename Below w3.heap.size w3 _ ∧ _ => hH
        refine ⟨_, rfl, rfl, by simp [go_sem, *], by simp [go_sem, *], by simp [go_sem, *], by simp [go_sem, *], by first | exact Nat.le_refl _ | omega | (simp only [World.size_alloc]; omega), hH.1⟩
    obtain ⟨B, rfl, rfl, u0, u1, u2, u3, hBl, hb5⟩ := hcut
    rename World => w5
    have hB5 := Lib.hid (bthen hB3.out hb5)
    clear hb5
    go_wp2_with fail
    go_ret2
    exact ⟨by rw [hf.out.1, hf.out.2]; rfl, hB5.out⟩
  · have hkn : (x.kind != 2) = false := by rw [bne, hkd]; rfl
    go_enter Tryz.func29, Tryz.ntmps29
    go_wp2_with fail
    have hc0 : (w.alloc (.cells #[.int .i64 wd, .slice (some ⟨b1, o1, none⟩) n c] 35)).cell? ⟨w.heap.size, 0, none⟩ = some (.int .i64 wd) := by simp [go_sem]
    have hc1 : (w.alloc (.cells #[.int .i64 wd, .slice (some ⟨b1, o1, none⟩) n c] 35)).cell? ⟨w.heap.size, 1, none⟩ = some (.slice (some ⟨b1, o1, none⟩) n c) := by simp [go_sem]
    generalize hW1 : (w.alloc (.cells #[.int .i64 wd, .slice (some ⟨b1, o1, none⟩) n c] 35)) = W1 at *
    (first | go_region_held3 (fun W => Below W1.heap.size W1 W ∧ W.cell? ⟨w.heap.size, 0, none⟩ = some (.int .i64 wd) ∧ W.cell? ⟨w.heap.size, 1, none⟩ = some (.slice (some ⟨b1, o1, none⟩) n c)) (first | exact held2 (below_drewN (Below.refl _ _) 1) hc0 hc1 | (rename Below W1.heap.size W1 _ ∧ _ => hH; refine held2 ?_ hc0 hc1; (refine bthen hH.1 ?_; assumption))) (first | (go_at_call 95; ((with_reducible refine (hdeck _ (bthen hb1.out (And.left ‹Below W1.heap.size W1 _ ∧ _›))).mono ?_); rintro e wq0 ⟨rfl, hbq1⟩)) | (go_at_call 68; ((with_reducible refine (hlay _ (bthen hb1.out (And.left ‹Below W1.heap.size W1 _ ∧ _›))).mono ?_); rintro e wq1 ⟨rfl, hbq2⟩))) | fail)
    have hHb := And.left ‹Below W1.heap.size W1 wq1 ∧ _›
    have hc0' := keep hHb hc0
    have hc1' := keep hHb hc1
    have hB := Lib.hid (bthen hb1.out hHb)
    go_wp2_with fail
    refine (hfind _ hB.out).mono ?_
    rintro e w3 ⟨rfl, hb⟩
    have hB3 := Lib.hid (bthen hB.out hb)
    have z0 := keep hb hc0'
    have z1 := keep hb hc1'
    have y0 := keep hB3.out q0
    have y1 := keep hB3.out q1
    have y2 := keep hB3.out q2
    have y3 := keep hB3.out q3
    clear hb hHb hc0 hc1 hc0' hc1' hW1 hb1 hbq1 hbq2
    go_upto_region 6 with (fail)
    go_cut [9, 10] from 29 to 35 (fun s9 s10 wx => ∃ B : Nat, s9 = .pointer (some ⟨B, 0, none⟩) ∧ s10 = .int .i64 0 ∧ wx.cell? ⟨B, 0, none⟩ = some (.string x.name) ∧ wx.cell? ⟨B, 1, none⟩ = some (.int .i64 x.kind) ∧ wx.cell? ⟨B, 2, none⟩ = some (.int .i64 x.fr) ∧ wx.cell? ⟨B, 3, none⟩ = some (.int .i64 x.to) ∧ w3.heap.size ≤ B ∧ Below w3.heap.size w3 wx)
    case first =>
      go_region_held3 (fun W => Below w3.heap.size w3 W ∧ W.cell? ⟨w.heap.size, 0, none⟩ = some (.int .i64 wd) ∧ W.cell? ⟨w.heap.size, 1, none⟩ = some (.slice (some ⟨b1, o1, none⟩) n c) ∧ W.cell? ⟨b1, o1 + k * 4, none⟩ = some (.string x.name) ∧ W.cell? ⟨b1, o1 + k * 4 + 1, none⟩ = some (.int .i64 x.kind) ∧ W.cell? ⟨b1, o1 + k * 4 + 2, none⟩ = some (.int .i64 x.fr) ∧ W.cell? ⟨b1, o1 + k * 4 + 3, none⟩ = some (.int .i64 x.to)) (first | exact held6 (below_drewN (Below.refl _ _) 1) z0 z1 y0 y1 y2 y3 | (rename Below w3.heap.size w3 _ ∧ _ => hH; refine held6 ?_ z0 z1 y0 y1 y2 y3; first | (refine bthen hH.1 ?_; assumption) | exact hH.1.alloc hH.1.size _ | (refine below_realloc hH.1 ?_; omega) | exact (((hH.1.setCell (by dsimp only; omega) _).setCell (by dsimp only; omega) _).setCell (by dsimp only; omega) _).setCell (by dsimp only; omega) _ | (refine hH.1.setCell ?_ _; dsimp only; omega))) (first | (go_at_call 70; ((with_reducible refine (hfind _ (bthen hB3.out (And.left ‹Below w3.heap.size w3 _ ∧ _›))).mono ?_); rintro e w6 ⟨rfl, hb6⟩; have hq := bcell hb6; obtain ⟨hqa, hqb⟩ := hq; have hqs := hb6.size; (try simp only [World.size_alloc, World.size_drew] at hqs))))
      all_goals
        go_wp2_with fail
        go_meet
        rename Below w3.heap.size w3 _ ∧ _ => hH
        refine ⟨_, rfl, rfl, by simp [go_sem, *], by simp [go_sem, *], by simp [go_sem, *], by simp [go_sem, *], by first | exact Nat.le_refl _ | omega | (simp only [World.size_alloc]; omega), hH.1⟩
    obtain ⟨B, rfl, rfl, u0, u1, u2, u3, hBl, hb5⟩ := hcut
    rename World => w5
    have hB5 := Lib.hid (bthen hB3.out hb5)
    clear hb5
    have hBlt : B < w5.heap.size := World.block_lt_of_cell? _ _ u2
    have hval : ∀ y ∈ xss, -1000000000000 ≤ valN x y ∧ valN x y ≤ 1000000000000 := fun y hym => by
      obtain ⟨j, hj⟩ := List.getElem?_of_mem hym
      obtain ⟨g1, g2, g3, g4⟩ := hcards.out j y hj x hmem.out
      have hlen := partL_length g3
      obtain ⟨t1, t2, t3⟩ := fieldB_yes g3
      have t4 := g4 (by simpa using hkd)
      exact numRes_bd (by omega) (by omega)
    have hsum := Lib.hid (sumN_bd hval)
    clear hval
    go_wp2_with fail
    go_loopw [10, 41] (fun sm i wr => ∃ j : Nat, j ≤ m ∧ i = .int .i64 j ∧ sm = .int .i64 (sumN x xss j) ∧ Hid ((xss.take j).all (okN x) = true) ∧ Below w5.heap.size w5 wr) (fun _ i _ => m - (intOf i).toNat)
    case atStart => exact ⟨0, by omega, rfl, by simp [sumN], Lib.hid rfl, Below.refl _ _⟩
    case round =>
      obtain ⟨j, hj, rfl, rfl, hall, hb⟩ := hrel
      by_cases hlt : j < m
      · obtain ⟨y, hyk⟩ := get_some (l := xss) (k := j) (by rw [hM'.out]; exact hlt)
        obtain ⟨b2, o2, a2, c2, rfl, e2, r2, l2, m2⟩ := (hys.out.kept (bthen hB5.out hb)).at hyk
        obtain ⟨g1, g2, g3, g4⟩ := hcards.out j y hyk x hmem.out
        have hl20 := validCard_len g1
        have t4 := g4 (by simpa using hkd)
        have hms := Lib.hid (valid_masks g1)
        have hsu := Lib.hid (sumN_succ (x := x) hyk)
        have hs0 := hsum.out j
        have hs1 := hsum.out (j + 1)
        rw [hsu.out] at hs1
        have hyk' := Lib.hid hyk
        have hsz := hb.size
        have hBlt' : B < wr.heap.size := by omega
        have hBne : ¬ B = wr.heap.size := by omega
        have v2 := keep hb u2
        have v3 := keep hb u3
        have hba := below_alloc (w := wr) (.cells #[.slice a2 y.length c2] 30)
        have hbx : (wr.alloc (.cells #[.slice a2 y.length c2] 30)).cell? ⟨wr.heap.size, 0, none⟩ = some (.slice a2 y.length c2) := by simp [go_sem]
        have v2' := keep hba v2
        have v3' := keep hba v3
        have hB7 := Lib.hid (bthen hb hba)
        have hr2 := r2.kept hba
        have hg3 := Lib.hid g3
        have hnum := Lib.hid (impl_numberIn a2 c2 y x.fr x.to _ hr2 (by omega) l2 g3 t4 hms.out)
        clear hyk g1 g2 g3 g4 hba
        have hj0 : (j : Int) < (m : Int) := by omega
        cases hok : okN x y
        · have hf := Lib.hid (h3.out _ hit'.out hkd (all_bad hyk'.out hok))
          go_wp2_with fail
          refine hnum.out.mono ?_
          rintro e w8 ⟨rfl, hb8⟩
          rw [show (numRes (partL y x.fr x.to)).2 = false from hok]
          go_wp2_with fail
          go_ret2
          exact ⟨by rw [hf.out.1, hf.out.2]; rfl, bthen hB5.out (bthen hB7.out hb8)⟩
        · have hnx := Lib.hid (all_more hyk'.out hall.out hok)
          go_wp2_with fail
          refine hnum.out.mono ?_
          rintro e w8 ⟨rfl, hb8⟩
          rw [show (numRes (partL y x.fr x.to)).2 = true from hok, show (numRes (partL y x.fr x.to)).1 = valN x y from rfl]
          go_wp2_with fail
          go_roundw
          case rel => exact ⟨j + 1, by omega, by go_num, by rw [hsu.out], hnx, bthen hB7.out hb8⟩
          case measure => simp [intOf]; omega
      · obtain rfl : j = m := by omega
        have hf := Lib.hid (h4.out _ hit'.out hkd (by have := hall.out; rwa [List.take_of_length_le (by rw [hM'.out]; omega)] at this))
        go_wp2_with fail
        go_ret2
        exact ⟨by rw [hf.out.1, hf.out.2]; rfl, bthen hB5.out hb⟩
end Go.Proofs.YtcbjfgjlhjjpiaaGreatDoor
