/- The walks of the functions that count the cards with a value of an item. How many cards hold a value: plain. No program in sight. -/
import Derived.Test.YtcbjfgjlhjjpiaaGreatDoorQK
import Derived.Test.YtcbjfgjlhjjpiaaGreatDoorQL
namespace Go.Proofs.YtcbjfgjlhjjpiaaGreatDoor
open Go.RowKit
set_option maxRecDepth 100000
set_option linter.unusedVariables false
set_option linter.unusedSimpArgs false
set_option linter.unnecessarySimpa false

def hitV (x : Itm) (v : ByteArray) (c : List Int) : Bool := (valS x c).2 && decide ((valS x c).1 = v)
def cntV (x : Itm) (v : ByteArray) (xss : List (List Int)) (k : Nat) : Int := ((xss.take k).countP (hitV x v) : Nat)
theorem cntV_zero (x : Itm) (v : ByteArray) (xss : List (List Int)) : cntV x v xss 0 = 0 := by simp [cntV]
theorem cntV_yes {x : Itm} {v : ByteArray} {xss : List (List Int)} {k : Nat} {c : List Int} (h : xss[k]? = some c) (hh : hitV x v c = true) : cntV x v xss (k + 1) = cntV x v xss k + 1 := by
  simp [cntV, List.take_add_one, h, hh]
theorem cntV_no {x : Itm} {v : ByteArray} {xss : List (List Int)} {k : Nat} {c : List Int} (h : xss[k]? = some c) (hh : hitV x v c = false) : cntV x v xss (k + 1) = cntV x v xss k := by
  simp [cntV, List.take_add_one, h, hh]
theorem cntV_bd (x : Itm) (v : ByteArray) (xss : List (List Int)) (k : Nat) : 0 ≤ cntV x v xss k ∧ cntV x v xss k ≤ k := by
  have h := List.countP_le_length (p := hitV x v) (l := xss.take k)
  have h2 : (xss.take k).length ≤ k := by rw [List.length_take]; omega
  unfold cntV; omega
def cvI (wd : Int) (xs : List Itm) (xss : List (List Int)) (nm v : ByteArray) : Int :=
  if dkC wd xs xss nm == 0 then (match itemAt xs nm with | none => 0 | some x => cntV x v xss xss.length) else 0
theorem cv_not {wd : Int} {xs : List Itm} {xss : List (List Int)} {nm : ByteArray} (v : ByteArray) {k : Int} (h : dkC wd xs xss nm = k) (hk : (k == 0) = false) : cvI wd xs xss nm v = 0 ∧ dkC wd xs xss nm = k := ⟨by unfold cvI; rw [h, hk]; rfl, h⟩
theorem cv_lay {wd : Int} {xs : List Itm} {xss : List (List Int)} (nm v : ByteArray) (h : (layI wd xs xss (validDeckL xss) == 0) = false) : cvI wd xs xss nm v = 0 ∧ dkC wd xs xss nm = layI wd xs xss (validDeckL xss) := cv_not v (dk_no nm rfl h).2 h
theorem cv_3 {wd : Int} {xs : List Itm} {xss : List (List Int)} {nm : ByteArray} (v : ByteArray) (h : layI wd xs xss (validDeckL xss) = 0) (h2 : findI xs nm < 0) : cvI wd xs xss nm v = 0 ∧ dkC wd xs xss nm = 3 := cv_not v (dk_3 h h2).2 rfl
theorem cv_ok {wd : Int} {xs : List Itm} {xss : List (List Int)} {nm : ByteArray} (v : ByteArray) {x : Itm} (h : layI wd xs xss (validDeckL xss) = 0) (h2 : ¬ findI xs nm < 0) (h3 : itemAt xs nm = some x) : cvI wd xs xss nm v = cntV x v xss xss.length ∧ dkC wd xs xss nm = 0 := by
  have h0 := (dk_ok (nm := nm) h h2).2
  exact ⟨by unfold cvI; rw [h0, h3]; rfl, h0⟩
theorem dk_zr {wd : Int} {xs : List Itm} {xss : List (List Int)} {nm : ByteArray} (h : (dkC wd xs xss nm == 0) = true) : layI wd xs xss (validDeckL xss) = 0 ∧ ¬ findI xs nm < 0 := by
  cases hL : (layI wd xs xss (validDeckL xss) == 0)
  · have h2 := dk_no nm (rfl : layI wd xs xss (validDeckL xss) = layI wd xs xss (validDeckL xss)) hL
    rw [h2.2, hL] at h; simp at h
  · have hL0 : layI wd xs xss (validDeckL xss) = 0 := by simpa using hL
    refine ⟨hL0, fun hneg => ?_⟩
    have h2 := dk_3 (nm := nm) hL0 hneg
    rw [h2.2] at h; simp at h
set_option maxHeartbeats 2000000 in
theorem impl_CountValue (wd : Int) (a : Option Addr) (c : Nat) (xs : List Itm) (b : Option Addr) (d : Nat) (xss : List (List Int)) (nm v : ByteArray) (w : World) (hx : RT w a xs) (hy : RD w b xss) (hn : itemsSz xs ≤ 1048576) (hcap : xs.length ≤ c) (hn2 : deckSz xss ≤ 1048576) (hnm : nm.size ≤ 1048576) (hnv : v.size ≤ 1048576) (ht : Pow10 w) :
    Calls Tryz.prog 32 #[.agg #[.int .i64 wd, .slice a xs.length c], .slice b xss.length d, .string nm, .string v] w fun e w' => e = .returned (.tuple #[.int .i64 (cvI wd xs xss nm v), .int .i64 (dkC wd xs xss nm)]) ∧ Below w.heap.size w w' := by
  have hb1 := Lib.hid (below_alloc (w := w) (.cells #[.int .i64 wd, .slice a xs.length c] 35))
  have hlay : ∀ W : World, Below w.heap.size w W → Calls Tryz.prog 68 #[.agg #[.int .i64 wd, .slice a xs.length c], .slice b xss.length d, .bool (validDeckL xss)] W fun e w' => e = .returned (.int .i64 (layI wd xs xss (validDeckL xss))) ∧ Below W.heap.size W w' := fun W hW => impl_layoutCode wd a c xs b d xss _ W (hx.kept hW) (hy.x.kept hW) hn hcap (by have := deckSz_len xss; omega) (deckSz_all hn2)
  have hdeck : ∀ W : World, Below w.heap.size w W → Calls Tryz.prog 95 #[.slice b xss.length d] W fun e w' => e = .returned (.bool (validDeckL xss)) ∧ Below W.heap.size W w' := fun W hW => impl_ValidDeck b d xss W (hy.kept hW) hn2
  have hfind : ∀ W : World, Below w.heap.size w W → Calls Tryz.prog 70 #[.agg #[.int .i64 wd, .slice a xs.length c], .string nm] W fun e w' => e = .returned (.int .i64 (findI xs nm)) ∧ Below W.heap.size W w' := fun W hW => impl_itemIndex wd a c xs nm W (hx.kept hW) hn
  cases hL : (layI wd xs xss (validDeckL xss) == 0)
  · have hf := Lib.hid (cv_lay nm v hL)
    have hne : (layI wd xs xss (validDeckL xss) != 0) = true := by rw [bne, hL]; rfl
    generalize layI wd xs xss (validDeckL xss) = L at *
    go_enter Tryz.func32, Tryz.ntmps32
    go_wp2_with fail
    have hc0 : (w.alloc (.cells #[.int .i64 wd, .slice a xs.length c] 35)).cell? ⟨w.heap.size, 0, none⟩ = some (.int .i64 wd) := by simp [go_sem]
    have hc1 : (w.alloc (.cells #[.int .i64 wd, .slice a xs.length c] 35)).cell? ⟨w.heap.size, 1, none⟩ = some (.slice a xs.length c) := by simp [go_sem]
    generalize hW1 : (w.alloc (.cells #[.int .i64 wd, .slice a xs.length c] 35)) = W1 at *
    (first | go_region_held3 (fun W => Below W1.heap.size W1 W ∧ W.cell? ⟨w.heap.size, 0, none⟩ = some (.int .i64 wd) ∧ W.cell? ⟨w.heap.size, 1, none⟩ = some (.slice a xs.length c)) (first | exact held2 (below_drewN (Below.refl _ _) 1) hc0 hc1 | (rename Below W1.heap.size W1 _ ∧ _ => hH; refine held2 ?_ hc0 hc1; (refine bthen hH.1 ?_; assumption))) (first | (go_at_call 95; ((with_reducible refine (hdeck _ (bthen hb1.out (And.left ‹Below W1.heap.size W1 _ ∧ _›))).mono ?_); rintro e wq0 ⟨rfl, hbq⟩)) | (go_at_call 68; ((with_reducible refine (hlay _ (bthen hb1.out (And.left ‹Below W1.heap.size W1 _ ∧ _›))).mono ?_); rintro e wq1 ⟨rfl, hbq⟩))) | fail)
    all_goals
      have hHb := And.left ‹Below W1.heap.size W1 _ ∧ _›
      go_wp2_with fail
      go_ret2
      exact ⟨by rw [hf.out.1, hf.out.2]; rfl, bthen hb1.out hHb⟩
  have hL0 : layI wd xs xss (validDeckL xss) = 0 := by simpa using hL
  rw [hL0] at hlay
  have hcards := Lib.hid (fun (k : Nat) (y : List Int) (hk : xss[k]? = some y) (x : Itm) (hxm : x ∈ xs) => lay_card hL0 hk hxm)
  have hd40 := deck_len (lay_zero hL0).2.1
  have h1 := Lib.hid (fun h2 => cv_3 (nm := nm) v hL0 h2)
  have h4 := Lib.hid (fun (x : Itm) h2 h3 => cv_ok (nm := nm) (x := x) v hL0 h2 h3)
  clear hL hL0
  have hxs := Lib.hid hx
  have hys := Lib.hid hy
  have hsz := Lib.hid hn2
  by_cases hneg : findI xs nm < 0
  · have hf := Lib.hid (h1.out hneg)
    clear hy hx hn2
    go_enter Tryz.func32, Tryz.ntmps32
    go_wp2_with fail
    have hc0 : (w.alloc (.cells #[.int .i64 wd, .slice a xs.length c] 35)).cell? ⟨w.heap.size, 0, none⟩ = some (.int .i64 wd) := by simp [go_sem]
    have hc1 : (w.alloc (.cells #[.int .i64 wd, .slice a xs.length c] 35)).cell? ⟨w.heap.size, 1, none⟩ = some (.slice a xs.length c) := by simp [go_sem]
    generalize hW1 : (w.alloc (.cells #[.int .i64 wd, .slice a xs.length c] 35)) = W1 at *
    (first | go_region_held3 (fun W => Below W1.heap.size W1 W ∧ W.cell? ⟨w.heap.size, 0, none⟩ = some (.int .i64 wd) ∧ W.cell? ⟨w.heap.size, 1, none⟩ = some (.slice a xs.length c)) (first | exact held2 (below_drewN (Below.refl _ _) 1) hc0 hc1 | (rename Below W1.heap.size W1 _ ∧ _ => hH; refine held2 ?_ hc0 hc1; (refine bthen hH.1 ?_; assumption))) (first | (go_at_call 95; ((with_reducible refine (hdeck _ (bthen hb1.out (And.left ‹Below W1.heap.size W1 _ ∧ _›))).mono ?_); rintro e wq0 ⟨rfl, hbq1⟩)) | (go_at_call 68; ((with_reducible refine (hlay _ (bthen hb1.out (And.left ‹Below W1.heap.size W1 _ ∧ _›))).mono ?_); rintro e wq1 ⟨rfl, hbq2⟩))) | fail)
    have hHb := And.left ‹Below W1.heap.size W1 wq1 ∧ _›
    have hc0' := keep hHb hc0
    have hc1' := keep hHb hc1
    have hB := Lib.hid (bthen hb1.out hHb)
    go_wp2_with fail
    refine (hfind _ hB.out).mono ?_
    rintro e w3 ⟨rfl, hb⟩
    go_wp2_with fail
    go_ret2
    exact ⟨by rw [hf.out.1, hf.out.2]; rfl, bthen hB.out hb⟩
  obtain ⟨k, x, hk, hxk, hit⟩ := item_some hneg
  rw [hk] at hfind
  obtain ⟨b1, o1, rfl, q0, q1, q2, q3⟩ := hx.at hxk
  have hkl : k < xs.length := (List.getElem?_eq_some_iff.1 hxk).1
  have hmem := Lib.hid (List.mem_of_getElem? hxk)
  have hit' := Lib.hid (h4.out _ hneg hit)
  have hk0 : ¬ (k : Int) < 0 := by omega
  clear hneg hk hxk hit hx
  generalize hN : xs.length = n at *
  have hN' := Lib.hid hN
  clear hN hy hn2 hxs
  generalize hM : xss.length = m at *
  have hM' := Lib.hid hM
  clear hM
  go_enter Tryz.func32, Tryz.ntmps32
  go_wp2_with fail
  have hc0 : (w.alloc (.cells #[.int .i64 wd, .slice (some ⟨b1, o1, none⟩) n c] 35)).cell? ⟨w.heap.size, 0, none⟩ = some (.int .i64 wd) := by simp [go_sem]
  have hc1 : (w.alloc (.cells #[.int .i64 wd, .slice (some ⟨b1, o1, none⟩) n c] 35)).cell? ⟨w.heap.size, 1, none⟩ = some (.slice (some ⟨b1, o1, none⟩) n c) := by simp [go_sem]
  generalize hW1 : (w.alloc (.cells #[.int .i64 wd, .slice (some ⟨b1, o1, none⟩) n c] 35)) = W1 at *
  (first | go_region_held3 (fun W => Below W1.heap.size W1 W ∧ W.cell? ⟨w.heap.size, 0, none⟩ = some (.int .i64 wd) ∧ W.cell? ⟨w.heap.size, 1, none⟩ = some (.slice (some ⟨b1, o1, none⟩) n c)) (first | exact held2 (below_drewN (Below.refl _ _) 1) hc0 hc1 | (rename Below W1.heap.size W1 _ ∧ _ => hH; refine held2 ?_ hc0 hc1; (refine bthen hH.1 ?_; assumption))) (first | (go_at_call 95; ((with_reducible refine (hdeck _ (bthen hb1.out (And.left ‹Below W1.heap.size W1 _ ∧ _›))).mono ?_); rintro e wq0 ⟨rfl, hbq1⟩)) | (go_at_call 68; ((with_reducible refine (hlay _ (bthen hb1.out (And.left ‹Below W1.heap.size W1 _ ∧ _›))).mono ?_); rintro e wq1 ⟨rfl, hbq2⟩))) | fail)
  have hHb := And.left ‹Below W1.heap.size W1 wq1 ∧ _›
  have hc0' := keep hHb hc0
  have hc1' := keep hHb hc1
  have hB := Lib.hid (bthen hb1.out hHb)
  go_wp2_with fail
  refine (hfind _ hB.out).mono ?_
  rintro e w3 ⟨rfl, hb⟩
  have hB3 := Lib.hid (bthen hB.out hb)
  have z0 := keep hb hc0'
  have z1 := keep hb hc1'
  have y0 := keep hB3.out q0
  have y1 := keep hB3.out q1
  have y2 := keep hB3.out q2
  have y3 := keep hB3.out q3
  clear hb hHb hc0 hc1 hc0' hc1' hW1 hb1 hbq1 hbq2
  go_wp2_with fail
  go_loopw [11, 32] (fun sm i wr => ∃ j : Nat, j ≤ m ∧ i = .int .i64 j ∧ sm = .int .i64 (cntV x v xss j) ∧ Below w3.heap.size w3 wr) (fun _ i _ => m - (intOf i).toNat)
  case atStart => exact ⟨0, by omega, rfl, by rw [cntV_zero], Below.refl _ _⟩
  case round =>
    obtain ⟨j, hj, rfl, rfl, hb⟩ := hrel
    by_cases hlt : j < m
    · obtain ⟨y, hyk⟩ := get_some (l := xss) (k := j) (by rw [hM'.out]; exact hlt)
      have hBr := Lib.hid (bthen hB3.out hb)
      obtain ⟨b2, o2, a2, c2, rfl, e2, r2, l2, m2⟩ := (hys.out.kept hBr.out).at hyk
      obtain ⟨g1, g2, g3, g4⟩ := hcards.out j y hyk x hmem.out
      have hl20 := validCard_len g1
      have hms := Lib.hid (valid_masks g1)
      have hhit := Lib.hid (show hitV x v y = ((valS x y).2 && decide ((valS x y).1 = v)) from rfl)
      have hyes := Lib.hid (cntV_yes (x := x) (v := v) hyk)
      have hno := Lib.hid (cntV_no (x := x) (v := v) hyk)
      obtain ⟨hs0, hs1⟩ := cntV_bd x v xss j
      have hsz := hb.size
      have hba := below_alloc (w := wr) (.cells #[.slice a2 y.length c2] 30)
      have hbx : (wr.alloc (.cells #[.slice a2 y.length c2] 30)).cell? ⟨wr.heap.size, 0, none⟩ = some (.slice a2 y.length c2) := by simp [go_sem]
      have k0 := keep hba (keep hb z0)
      have k1 := keep hba (keep hb z1)
      have k2 := keep hba (keep hb y0)
      have k3 := keep hba (keep hb y1)
      have k4 := keep hba (keep hb y2)
      have k5 := keep hba (keep hb y3)
      have hBc := Lib.hid (bthen hBr.out hba)
      have hb3c := Lib.hid (bthen hb hba)
      have hval : ∀ W : World, Below wr.heap.size wr W → Calls Tryz.prog 102 #[.agg #[.string x.name, .int .i64 x.kind, .int .i64 x.fr, .int .i64 x.to], .agg #[.slice a2 y.length c2]] W fun e w' => e = .returned (.tuple #[.string (valS x y).1, .bool (valS x y).2]) ∧ Below W.heap.size W w' := fun W hW => impl_itemValue x a2 c2 y W (r2.kept hW) (by omega) l2 g3 g4 hms.out (TabIs.kept ht (bthen hBr.out hW))
      have hbaW := Lib.hid hba
      have hcn : ∀ (bb : Bool), hitV x v y = bb → True := fun _ _ => trivial
      clear hyk g1 g2 g3 g4 hba hcn
      generalize (valS x y).1 = V at *
      generalize (valS x y).2 = B at *
      have hj0 : (j : Int) < (m : Int) := by omega
      cases B
      · have hnx := Lib.hid (hno.out (by rw [hhit.out]; rfl))
        go_wp2_with fail
        generalize hWc : (wr.alloc (.cells #[.slice a2 y.length c2] 30)) = Wc at *
        (first | go_region_held3 (fun W => Below Wc.heap.size Wc W ∧ W.cell? ⟨w.heap.size, 0, none⟩ = some (.int .i64 wd) ∧ W.cell? ⟨w.heap.size, 1, none⟩ = some (.slice (some ⟨b1, o1, none⟩) n c) ∧ W.cell? ⟨b1, o1 + k * 4, none⟩ = some (.string x.name) ∧ W.cell? ⟨b1, o1 + k * 4 + 1, none⟩ = some (.int .i64 x.kind) ∧ W.cell? ⟨b1, o1 + k * 4 + 2, none⟩ = some (.int .i64 x.fr) ∧ W.cell? ⟨b1, o1 + k * 4 + 3, none⟩ = some (.int .i64 x.to) ∧ W.cell? ⟨wr.heap.size, 0, none⟩ = some (.slice a2 y.length c2)) (first | exact held7 (below_drewN (Below.refl _ _) 1) k0 k1 k2 k3 k4 k5 hbx | (rename Below Wc.heap.size Wc _ ∧ _ => hH; refine held7 ?_ k0 k1 k2 k3 k4 k5 hbx; (refine bthen hH.1 ?_; assumption))) (first | (go_at_call 70; ((with_reducible refine (hfind _ (bthen hBc.out (And.left ‹Below Wc.heap.size Wc _ ∧ _›))).mono ?_); rintro e wq0 ⟨rfl, hbq5⟩)) | (go_at_call 102; ((with_reducible refine (hval _ (bthen hbaW.out (And.left ‹Below Wc.heap.size Wc _ ∧ _›))).mono ?_); rintro e wq1 ⟨rfl, hbq6⟩))) | fail)
        all_goals
          have hHb := And.left ‹Below Wc.heap.size Wc _ ∧ _›
          go_wp2_with fail
          go_roundw
          case rel => exact ⟨j + 1, by omega, by go_num, by rw [hnx.out], bthen hb3c.out hHb⟩
          case measure => simp [intOf]; omega
      · by_cases hV : V = v
        · have hnx := Lib.hid (hyes.out (by rw [hhit.out]; simp [hV]))
          subst hV
          go_wp2_with fail
          generalize hWc : (wr.alloc (.cells #[.slice a2 y.length c2] 30)) = Wc at *
          (first | go_region_held3 (fun W => Below Wc.heap.size Wc W ∧ W.cell? ⟨w.heap.size, 0, none⟩ = some (.int .i64 wd) ∧ W.cell? ⟨w.heap.size, 1, none⟩ = some (.slice (some ⟨b1, o1, none⟩) n c) ∧ W.cell? ⟨b1, o1 + k * 4, none⟩ = some (.string x.name) ∧ W.cell? ⟨b1, o1 + k * 4 + 1, none⟩ = some (.int .i64 x.kind) ∧ W.cell? ⟨b1, o1 + k * 4 + 2, none⟩ = some (.int .i64 x.fr) ∧ W.cell? ⟨b1, o1 + k * 4 + 3, none⟩ = some (.int .i64 x.to) ∧ W.cell? ⟨wr.heap.size, 0, none⟩ = some (.slice a2 y.length c2)) (first | exact held7 (below_drewN (Below.refl _ _) 1) k0 k1 k2 k3 k4 k5 hbx | (rename Below Wc.heap.size Wc _ ∧ _ => hH; refine held7 ?_ k0 k1 k2 k3 k4 k5 hbx; (refine bthen hH.1 ?_; assumption))) (first | (go_at_call 70; ((with_reducible refine (hfind _ (bthen hBc.out (And.left ‹Below Wc.heap.size Wc _ ∧ _›))).mono ?_); rintro e wq0 ⟨rfl, hbq5⟩)) | (go_at_call 102; ((with_reducible refine (hval _ (bthen hbaW.out (And.left ‹Below Wc.heap.size Wc _ ∧ _›))).mono ?_); rintro e wq1 ⟨rfl, hbq6⟩))) | fail)
          all_goals
            have hHb := And.left ‹Below Wc.heap.size Wc _ ∧ _›
            go_wp2_with fail
            go_roundw
            case rel => exact ⟨j + 1, by omega, by go_num, by rw [hnx.out], bthen hb3c.out hHb⟩
            case measure => simp [intOf]; omega
        · have hnx := Lib.hid (hno.out (by rw [hhit.out]; simp [hV]))
          have hVd : (V.toList == v.toList) = false := by rw [named_iff]; simp [hV]
          go_wp2_with fail
          generalize hWc : (wr.alloc (.cells #[.slice a2 y.length c2] 30)) = Wc at *
          (first | go_region_held3 (fun W => Below Wc.heap.size Wc W ∧ W.cell? ⟨w.heap.size, 0, none⟩ = some (.int .i64 wd) ∧ W.cell? ⟨w.heap.size, 1, none⟩ = some (.slice (some ⟨b1, o1, none⟩) n c) ∧ W.cell? ⟨b1, o1 + k * 4, none⟩ = some (.string x.name) ∧ W.cell? ⟨b1, o1 + k * 4 + 1, none⟩ = some (.int .i64 x.kind) ∧ W.cell? ⟨b1, o1 + k * 4 + 2, none⟩ = some (.int .i64 x.fr) ∧ W.cell? ⟨b1, o1 + k * 4 + 3, none⟩ = some (.int .i64 x.to) ∧ W.cell? ⟨wr.heap.size, 0, none⟩ = some (.slice a2 y.length c2)) (first | exact held7 (below_drewN (Below.refl _ _) 1) k0 k1 k2 k3 k4 k5 hbx | (rename Below Wc.heap.size Wc _ ∧ _ => hH; refine held7 ?_ k0 k1 k2 k3 k4 k5 hbx; (refine bthen hH.1 ?_; assumption))) (first | (go_at_call 70; ((with_reducible refine (hfind _ (bthen hBc.out (And.left ‹Below Wc.heap.size Wc _ ∧ _›))).mono ?_); rintro e wq0 ⟨rfl, hbq5⟩)) | (go_at_call 102; ((with_reducible refine (hval _ (bthen hbaW.out (And.left ‹Below Wc.heap.size Wc _ ∧ _›))).mono ?_); rintro e wq1 ⟨rfl, hbq6⟩))) | fail)
          all_goals
            have hHb := And.left ‹Below Wc.heap.size Wc _ ∧ _›
            go_wp2_with fail
            go_roundw
            case rel => exact ⟨j + 1, by omega, by go_num, by rw [hnx.out], bthen hb3c.out hHb⟩
            case measure => simp [intOf]; omega
    · obtain rfl : j = m := by omega
      go_wp2_with fail
      go_ret2
      exact ⟨by rw [hit'.out.1, hit'.out.2]; rfl, bthen hB3.out hb⟩
set_option maxHeartbeats 2000000 in
theorem spec_CountValue (wd : Int) (a : Option Addr) (c : Nat) (xs : List Itm) (b : Option Addr) (d : Nat) (xss : List (List Int)) (nm v : ByteArray) (w : World) (hx : RT w a xs) (hy : RD w b xss) (hn : itemsSz xs ≤ 1048576) (hcap : xs.length ≤ c) (hn2 : deckSz xss ≤ 1048576) (hnm : nm.size ≤ 1048576) (hnv : v.size ≤ 1048576) :
    Calls Tryz.prog 33 #[.agg #[.int .i64 wd, .slice a xs.length c], .slice b xss.length d, .string nm, .string v] w fun e w' => e = .returned (.tuple #[.int .i64 (cvI wd xs xss nm v), .int .i64 (dkC wd xs xss nm)]) ∧ Below w.heap.size w w' := by
  have hb1 := Lib.hid (below_alloc (w := w) (.cells #[.int .i64 wd, .slice a xs.length c] 35))
  have hc0 : (w.alloc (.cells #[.int .i64 wd, .slice a xs.length c] 35)).cell? ⟨w.heap.size, 0, none⟩ = some (.int .i64 wd) := by simp [go_sem]
  have hc1 : (w.alloc (.cells #[.int .i64 wd, .slice a xs.length c] 35)).cell? ⟨w.heap.size, 1, none⟩ = some (.slice a xs.length c) := by simp [go_sem]
  have hdk := Lib.hid (spec_l04Deck w.heap.size wd a c xs b d xss nm _ hc0 hc1 (hx.kept hb1.out) (hy.kept hb1.out) hn hn2)
  cases hL : (dkC wd xs xss nm == 0)
  · have hf := Lib.hid (cv_not v (rfl : dkC wd xs xss nm = dkC wd xs xss nm) hL)
    have hne : (dkC wd xs xss nm != 0) = true := by rw [bne, hL]; rfl
    clear hc0 hc1
    go_enter Tryz.func33, Tryz.ntmps33
    go_wp2_with fail
    refine hdk.out.mono ?_
    rintro e w2 ⟨rfl, hb⟩
    go_wp2_with fail
    go_ret2
    exact ⟨by rw [hf.out.1]; rfl, bthen hb1.out hb⟩
  obtain ⟨hL0, hneg⟩ := dk_zr hL
  have hdz := dk_ok (nm := nm) hL0 hneg
  obtain ⟨k, x, hk, hxk, hit⟩ := item_some hneg
  rw [hdz.1, hdz.2, hk] at hdk
  have hcards := Lib.hid (fun (k : Nat) (y : List Int) (hk : xss[k]? = some y) (x : Itm) (hxm : x ∈ xs) => lay_card hL0 hk hxm)
  have hd40 := deck_len (lay_zero hL0).2.1
  have h4 := Lib.hid (cv_ok (nm := nm) (x := x) v hL0 hneg hit)
  have hys := Lib.hid hy
  obtain ⟨b1, o1, rfl, q0, q1, q2, q3⟩ := hx.at hxk
  have hkl : k < xs.length := (List.getElem?_eq_some_iff.1 hxk).1
  have hmem := Lib.hid (List.mem_of_getElem? hxk)
  clear hL hL0 hdz hneg hk hxk hit hx hy hn2
  generalize hN : xs.length = n at *
  have hN' := Lib.hid hN
  generalize hM : xss.length = m at *
  have hM' := Lib.hid hM
  clear hN hM
  go_enter Tryz.func33, Tryz.ntmps33
  go_wp2_with fail
  refine hdk.out.mono ?_
  rintro e w2 ⟨rfl, hb⟩
  have hB2 := Lib.hid (bthen hb1.out hb)
  have z0 := keep hb hc0
  have z1 := keep hb hc1
  have y0 := keep hB2.out q0
  have y1 := keep hB2.out q1
  have y2 := keep hB2.out q2
  have y3 := keep hB2.out q3
  clear hb
  go_wp2_with fail
  go_loopw [12, 13] (fun sm i wr => ∃ j : Nat, j ≤ m ∧ i = .int .i64 j ∧ sm = .int .i64 (cntV x v xss j) ∧ Below w2.heap.size w2 wr) (fun _ i _ => m - (intOf i).toNat)
  case atStart => exact ⟨0, by omega, rfl, by rw [cntV_zero], Below.refl _ _⟩
  case round =>
    obtain ⟨j, hj, rfl, rfl, hb⟩ := hrel
    by_cases hlt : j < m
    · obtain ⟨y, hyk⟩ := get_some (l := xss) (k := j) (by rw [hM'.out]; exact hlt)
      obtain ⟨b2, o2, a2, c2, rfl, e2, r2, l2, m2⟩ := (hys.out.kept (bthen hB2.out hb)).at hyk
      obtain ⟨g1, g2, g3, g4⟩ := hcards.out j y hyk x hmem.out
      have hl20 := validCard_len g1
      have hms := Lib.hid (valid_masks g1)
      have hhit := Lib.hid (show hitV x v y = ((valS x y).2 && decide ((valS x y).1 = v)) from rfl)
      have hyes := Lib.hid (cntV_yes (x := x) (v := v) hyk)
      have hno := Lib.hid (cntV_no (x := x) (v := v) hyk)
      obtain ⟨hs0, hs1⟩ := cntV_bd x v xss j
      have v1 := keep hb z1
      have v2 := keep hb y1
      have v3 := keep hb y2
      have v4 := keep hb y3
      have hval : ∀ W : World, Below wr.heap.size wr W → Calls Tryz.prog 101 #[.pointer (some ⟨b1, o1 + k * 4, none⟩), .pointer (some ⟨b2, o2 + j, none⟩)] W fun e w' => e = .returned (.tuple #[.string (valS x y).1, .bool (valS x y).2]) ∧ Below W.heap.size W w' := fun W hW => spec_l04Value b1 (o1 + k * 4) b2 (o2 + j) x a2 c2 y W (keep hW v2) (keep hW v3) (keep hW v4) (keep hW e2) (r2.kept hW) (by omega) l2 g3 g4 hms.out
      clear hyk g1 g2 g3 g4
      generalize (valS x y).1 = V at *
      generalize (valS x y).2 = B at *
      have hj0 : (j : Int) < (m : Int) := by omega
      cases B
      · have hnx := Lib.hid (hno.out (by rw [hhit.out]; rfl))
        go_wp2_with fail
        (first | go_region_held3 (fun W => Below wr.heap.size wr W ∧ W.cell? ⟨w.heap.size, 1, none⟩ = some (.slice (some ⟨b1, o1, none⟩) n c)) (first | exact held1 (below_drewN (Below.refl _ _) 1) v1 | (rename Below wr.heap.size wr _ ∧ _ => hH; refine held1 ?_ v1; (refine bthen hH.1 ?_; assumption))) (first | (go_at_call 101; ((with_reducible refine (hval _ (And.left ‹Below wr.heap.size wr _ ∧ _›)).mono ?_); rintro e wq0 ⟨rfl, hbq6⟩))) | fail)
        all_goals
          have hHb := And.left ‹Below wr.heap.size wr _ ∧ _›
          go_wp2_with fail
          go_roundw
          case rel => exact ⟨j + 1, by omega, by go_num, by rw [hnx.out], bthen hb hHb⟩
          case measure => simp [intOf]; omega
      · by_cases hV : V = v
        · have hnx := Lib.hid (hyes.out (by rw [hhit.out]; simp [hV]))
          subst hV
          go_wp2_with fail
          (first | go_region_held3 (fun W => Below wr.heap.size wr W ∧ W.cell? ⟨w.heap.size, 1, none⟩ = some (.slice (some ⟨b1, o1, none⟩) n c)) (first | exact held1 (below_drewN (Below.refl _ _) 1) v1 | (rename Below wr.heap.size wr _ ∧ _ => hH; refine held1 ?_ v1; (refine bthen hH.1 ?_; assumption))) (first | (go_at_call 101; ((with_reducible refine (hval _ (And.left ‹Below wr.heap.size wr _ ∧ _›)).mono ?_); rintro e wq0 ⟨rfl, hbq6⟩))) | fail)
          all_goals
            have hHb := And.left ‹Below wr.heap.size wr _ ∧ _›
            go_wp2_with fail
            go_roundw
            case rel => exact ⟨j + 1, by omega, by go_num, by rw [hnx.out], bthen hb hHb⟩
            case measure => simp [intOf]; omega
        · have hnx := Lib.hid (hno.out (by rw [hhit.out]; simp [hV]))
          have hVd : (V.toList == v.toList) = false := by rw [named_iff]; simp [hV]
          go_wp2_with fail
          (first | go_region_held3 (fun W => Below wr.heap.size wr W ∧ W.cell? ⟨w.heap.size, 1, none⟩ = some (.slice (some ⟨b1, o1, none⟩) n c)) (first | exact held1 (below_drewN (Below.refl _ _) 1) v1 | (rename Below wr.heap.size wr _ ∧ _ => hH; refine held1 ?_ v1; (refine bthen hH.1 ?_; assumption))) (first | (go_at_call 101; ((with_reducible refine (hval _ (And.left ‹Below wr.heap.size wr _ ∧ _›)).mono ?_); rintro e wq0 ⟨rfl, hbq6⟩))) | fail)
          all_goals
            have hHb := And.left ‹Below wr.heap.size wr _ ∧ _›
            go_wp2_with fail
            go_roundw
            case rel => exact ⟨j + 1, by omega, by go_num, by rw [hnx.out], bthen hb hHb⟩
            case measure => simp [intOf]; omega
    · obtain rfl : j = m := by omega
      go_wp2_with fail
      go_ret2
      exact ⟨by rw [h4.out.1, h4.out.2]; rfl, bthen hB2.out hb⟩
end Go.Proofs.YtcbjfgjlhjjpiaaGreatDoor
namespace Go.Proofs.YtcbjfgjlhjjpiaaGreatDoor
open Go.RowKit
theorem cv_range (wd : Int) (xs : List Itm) (xss : List (List Int)) (nm v : ByteArray) : 0 ≤ cvI wd xs xss nm v ∧ cvI wd xs xss nm v ≤ xss.length := by
  unfold cvI
  split
  · split
    · omega
    · rename_i x _; exact cntV_bd x v xss xss.length
  · omega
end Go.Proofs.YtcbjfgjlhjjpiaaGreatDoor
