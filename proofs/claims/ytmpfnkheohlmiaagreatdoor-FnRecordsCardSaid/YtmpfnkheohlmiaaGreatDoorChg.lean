/- The walks of the two functions that change an item of a card: what each returns, and that memory has at most new blocks. -/
import Derived.Test.YtmpfnkheohlmiaaGreatDoorPv
import Derived.Test.YtmpfnkheohlmiaaGreatDoorPvS
import Derived.Test.YtmpfnkheohlmiaaGreatDoorQL
import Derived.Test.YtmpfnkheohlmiaaGreatDoorQY
namespace Go.Proofs.YtmpfnkheohlmiaaGreatDoor
open Go.RowKit
set_option maxRecDepth 100000
set_option linter.unusedVariables false
set_option linter.unusedSimpArgs false
set_option linter.unnecessarySimpa false

theorem chgL_len (wd : Int) (xs : List Itm) (ys : List Int) (nm s : ByteArray) (h : ys.length ≤ 1048576) : (chgL wd xs ys nm s).length ≤ 1048576 := by
  unfold chgL
  cases hc : (chgCode wd xs ys nm s == 0)
  · simp
  · simp only [if_true]
    have h0 : chgCode wd xs ys nm s = 0 := by simpa using hc
    cases hg : xs[(findI xs nm).toNat]? with
    | none => simp
    | some x =>
      simp only
      unfold chgCode at h0
      cases hL : (layI wd xs [ys] (validCardL ys) == 0)
      · rw [hL] at h0; simp only [Bool.false_eq_true, if_false] at h0
        rw [h0] at hL; cases hL
      · have hL0 : layI wd xs [ys] (validCardL ys) = 0 := by simpa using hL
        obtain ⟨_, _, g3, _⟩ := fit_card hL0 (List.mem_of_getElem? hg)
        obtain ⟨q1, q2, q3⟩ := fieldB_yes g3
        exact pvR_small (by omega) h q3 q1
theorem find_at {xs : List Itm} {nm : ByteArray} (h : ¬ findI xs nm < 0) : ∃ (k : Nat) (x : Itm), findI xs nm = (k : Int) ∧ k < xs.length ∧ xs[k]? = some x := by
  have hge := firstB_ge (namedB nm) xs
  have h1 : findI xs nm < xs.length := hge.2.1
  obtain ⟨k, hk⟩ := Int.eq_ofNat_of_zero_le (show 0 ≤ findI xs nm by omega)
  have hkl : k < xs.length := by omega
  obtain ⟨x, hx⟩ := get_some hkl
  exact ⟨k, x, hk, hkl, hx⟩
set_option maxHeartbeats 4000000 in
theorem impl_ChangeItem (wd : Int) (a : Option Addr) (c : Nat) (xs : List Itm) (b : Option Addr) (d : Nat) (ys : List Int) (nm s : ByteArray) (w : World) (hx : RT w a xs) (hy : RI w b ys) (hn : itemsSz xs ≤ 1048576) (hcap : xs.length ≤ c) (hn2 : ys.length ≤ 1048576) (hcap2 : ys.length ≤ d) (hnm : nm.size ≤ 1048576) (hs : s.size ≤ 1048576) (ht : Pow10 w) (he : Errs w) :
    Calls Tryz.prog 17 #[.agg #[.int .i64 wd, .slice a xs.length c], .agg #[.slice b ys.length d], .string nm, .string s] w fun e w' => ∃ a' c', e = .returned (.tuple #[.agg #[.slice a' (chgL wd xs ys nm s).length c'], .int .i64 (chgCode wd xs ys nm s)]) ∧ w'.ownsRow w.heap.size 2 1 (.slice a' (chgL wd xs ys nm s).length c') (chgL wd xs ys nm s).length ((chgL wd xs ys nm s).map (Value.int .i64)) ∧ Below w.heap.size w w' := by
  have hb1 := Lib.hid (below_alloc3 w (.cells #[.int .i64 wd, .slice a xs.length c] 26) (.cells #[.slice b ys.length d] 32) (.cells #[.slice none 0 0] 32))
  have hlay : ∀ (W : World) (B cc : Nat), W.cell? ⟨B, 0, none⟩ = some (.slice b ys.length d) → Below w.heap.size w W → Calls Tryz.prog 39 #[.agg #[.int .i64 wd, .slice a xs.length c], .slice (some ⟨B, 0, none⟩) 1 cc, .bool (validCardL ys)] W fun e w' => e = .returned (.int .i64 (layI wd xs [ys] (validCardL ys))) ∧ Below W.heap.size W w' := fun W B cc hc hW => impl_layoutCode wd a c xs (some ⟨B, 0, none⟩) cc [ys] _ W (hx.kept hW) (rdx_one hc (hy.kept hW)) hn hcap (by simp) (fun x hx => by simp at hx; subst hx; exact hn2)
  have hcard : ∀ W : World, Below w.heap.size w W → Calls Tryz.prog 40 #[.agg #[.slice b ys.length d]] W fun e w' => e = .returned (.bool (validCardL ys)) ∧ Below W.heap.size W w' := fun W hW => impl_ValidCard b d ys W (hy.kept hW) (small hn2)
  have hidx := Lib.hid (fun (W : World) (hW : Below w.heap.size w W) => impl_itemIndex wd a c xs nm W (hx.kept hW) hn)
  have hlayf := Lib.hid (fun (h : (layI wd xs [ys] (validCardL ys) == 0) = false) => chg_lay nm s h)
  have h3f := Lib.hid (fun (h : layI wd xs [ys] (validCardL ys) = 0) h2 => chg_3 (nm := nm) s h h2)
  have hpf := Lib.hid (fun (h : layI wd xs [ys] (validCardL ys) = 0) (k : Nat) (x : Itm) h2 hx => chg_pv (nm := nm) (s := s) (k := k) (x := x) h h2 hx)
  have hcards := Lib.hid (fun (h : layI wd xs [ys] (validCardL ys) = 0) (x : Itm) (hxm : x ∈ xs) => fit_card h hxm)
  generalize layI wd xs [ys] (validCardL ys) = L at *
  go_enter Tryz.func17, Tryz.ntmps17
  go_upto_region 1 with (fail)
  have hc0 : (((w.alloc (.cells #[.int .i64 wd, .slice a xs.length c] 26)).alloc (.cells #[.slice b ys.length d] 32)).alloc (.cells #[.slice none 0 0] 32)).cell? ⟨w.heap.size, 0, none⟩ = some (.int .i64 wd) := by simp [go_sem]
  have hc1 : (((w.alloc (.cells #[.int .i64 wd, .slice a xs.length c] 26)).alloc (.cells #[.slice b ys.length d] 32)).alloc (.cells #[.slice none 0 0] 32)).cell? ⟨w.heap.size, 1, none⟩ = some (.slice a xs.length c) := by simp [go_sem]
  have hc2 : (((w.alloc (.cells #[.int .i64 wd, .slice a xs.length c] 26)).alloc (.cells #[.slice b ys.length d] 32)).alloc (.cells #[.slice none 0 0] 32)).cell? ⟨w.heap.size + 1, 0, none⟩ = some (.slice b ys.length d) := by simp [go_sem]
  have hc3 : (((w.alloc (.cells #[.int .i64 wd, .slice a xs.length c] 26)).alloc (.cells #[.slice b ys.length d] 32)).alloc (.cells #[.slice none 0 0] 32)).cell? ⟨w.heap.size + 1 + 1, 0, none⟩ = some (.slice none 0 0) := by simp [go_sem]
  have hf3 : (((w.alloc (.cells #[.int .i64 wd, .slice a xs.length c] 26)).alloc (.cells #[.slice b ys.length d] 32)).alloc (.cells #[.slice none 0 0] 32)).frozen? ⟨w.heap.size + 1 + 1, 0, none⟩ = false := by simp [go_sem]
  generalize hW1 : (((w.alloc (.cells #[.int .i64 wd, .slice a xs.length c] 26)).alloc (.cells #[.slice b ys.length d] 32)).alloc (.cells #[.slice none 0 0] 32)) = W1 at *
  clear hW1
  go_cut [10] from 11 to 16 (fun s10 wx => s10 = .int .i64 L ∧ Below W1.heap.size W1 wx)
  case first =>
    (first | go_region_held3 (fun W => Below W1.heap.size W1 W ∧ W.cell? ⟨w.heap.size, 0, none⟩ = some (.int .i64 wd) ∧ W.cell? ⟨w.heap.size, 1, none⟩ = some (.slice a xs.length c) ∧ W.cell? ⟨w.heap.size + 1, 0, none⟩ = some (.slice b ys.length d)) (first | exact held3 (below_drewN (Below.refl _ _) 1) hc0 hc1 hc2 | (rename Below W1.heap.size W1 _ ∧ _ => hH; refine held3 ?_ hc0 hc1 hc2; first | (refine bthen hH.1 ?_; assumption) | exact hH.1.alloc hH.1.size _)) (first | (go_at_call 40; ((with_reducible refine (hcard _ (bthen hb1.out (And.left ‹Below W1.heap.size W1 _ ∧ _›))).mono ?_); rintro e wq0 ⟨rfl, hb6⟩; have hq := bcell hb6; obtain ⟨hqa, hqb⟩ := hq; have hqs := hb6.size; (try simp only [World.size_alloc, World.size_drew] at hqs))) | (go_at_call 39; (refine (hlay _ _ _ (by simp [go_sem, *]) (bthen hb1.out (And.left ‹Below W1.heap.size W1 _ ∧ _›))).mono ?_; rintro e wq1 ⟨rfl, hbq1⟩))) | fail)
    all_goals
      go_wp2_with fail
      go_meet
      exact ⟨rfl, And.left ‹Below W1.heap.size W1 _ ∧ _›⟩
  obtain ⟨rfl, hHb⟩ := hcut
  rename World => w2
  have hB2 := Lib.hid (bthen hb1.out hHb)
  have z0 := keep hHb hc0
  have z1 := keep hHb hc1
  have z2 := keep hHb hc2
  have z3 := keep hHb hc3
  have zf := keepf hHb hc3 hf3
  have zl := World.block_lt_of_cell? _ _ z3
  clear hHb hc0 hc1 hc2 hc3 hf3 hlay hcard
  cases hL : (L == 0)
  · have hf := Lib.hid (hlayf.out hL)
    have hne : (L != 0) = true := by rw [bne, hL]; rfl
    go_wp2_with fail
    refine bodyPost_ret (v := .tuple #[.agg #[.slice none 0 0], .int .i64 L]) (by simp [results, Tryz.results17, go_sem, *]) rfl ⟨none, 0, by rw [hf.out.1, hf.out.2]; rfl, by rw [hf.out.1]; exact World.ownsRow_nil _ _ _ _, ?_⟩
    first | exact hB2.out | exact hB2.out.setCell (by dsimp only; omega) _
  · obtain rfl : L = 0 := by simpa using hL
    clear hlayf hL
    have hidx2 := Lib.hid (hidx.out w2 hB2.out)
    by_cases hneg : findI xs nm < 0
    · have hf := Lib.hid (h3f.out rfl hneg)
      go_wp2_with fail
      refine hidx2.out.mono ?_
      rintro e w3 ⟨rfl, hb⟩
      have y3 := keep hb z3
      have yf := keepf hb z3 zf
      replace hB2 := Lib.hid (bthen hB2.out hb)
      have yl := World.block_lt_of_cell? _ _ y3
      clear hb
      go_wp2_with fail
      refine bodyPost_ret (v := .tuple #[.agg #[.slice none 0 0], .int .i64 3]) (by simp [results, Tryz.results17, go_sem, *]) rfl ⟨none, 0, by rw [hf.out.1, hf.out.2]; rfl, by rw [hf.out.1]; exact World.ownsRow_nil _ _ _ _, ?_⟩
      first | exact hB2.out | exact hB2.out.setCell (by dsimp only; omega) _
    · obtain ⟨k, x, hk, hkl, hxk⟩ := find_at hneg
      have hf := Lib.hid (hpf.out rfl k x hk hxk)
      obtain ⟨g1, g2, g3, g4⟩ := hcards.out rfl x (List.mem_of_getElem? hxk)
      have hgf := Lib.hid g3
      have hnn : ¬ (k : Int) < 0 := by omega
      have hkl' : (k : Int) < (xs.length : Int) := by omega
      rw [hk] at hidx2
      have hidx3 := Lib.hid (fun (W : World) (hW : Below w.heap.size w W) => (show Calls Tryz.prog 58 #[.agg #[.int .i64 wd, .slice a xs.length c], .string nm] W fun e w' => e = .returned (.int .i64 k) ∧ Below W.heap.size W w' by
        have h := hidx.out W hW
        rw [hk] at h; exact h))
      have hpv := Lib.hid (fun (W : World) (hW : Below w.heap.size w W) => impl_punchValue b d ys x s W (hy.kept hW) hn2 hgf.out hs (TabIs.kept ht hW) (Errs.kept he hW))
      obtain ⟨bx, ox, rfl, q0, q1, q2, q3⟩ := hx.at hxk
      have hbx := World.block_lt_of_cell? _ _ q0
      have hbx' : bx < w.heap.size := hbx
      clear hidx hpf h3f hcards hneg hk hxk g1 g2 g3 g4 hx hy hn hcap hn2 hcap2 hbx
      go_wp2_with fail
      refine hidx2.out.mono ?_
      rintro e w3 ⟨rfl, hb⟩
      have y0 := keep hb z0
      have y1 := keep hb z1
      have y2 := keep hb z2
      have y3 := keep hb z3
      have yf := keepf hb z3 zf
      replace hB2 := Lib.hid (bthen hB2.out hb)
      have p0 := keep hB2.out q0
      have p1 := keep hB2.out q1
      have p2 := keep hB2.out q2
      have p3 := keep hB2.out q3
      have yl := World.block_lt_of_cell? _ _ y3
      have yl' : w.heap.size + 1 + 1 < w3.heap.size := yl
      clear hb z0 z1 z2 z3 zf zl q0 q1 q2 q3 hidx2
      go_wp2_with fail
      obtain ⟨M, hM⟩ : ∃ M, M = (pvR ys x s).length := ⟨_, rfl⟩
      obtain ⟨C, hC⟩ : ∃ C, C = pvCode x s := ⟨_, rfl⟩
      rw [← hM, ← hC] at hpv
      have hM' := Lib.hid hM
      have hC' := Lib.hid hC
      clear hM hC
      have hS := Lib.hid (fun (W : World) (hb : Below (w.heap.size + 2) w3 W) => (And.intro hb (And.intro (heldB hb (by omega) y0) (And.intro (heldB hb (by omega) y1) (And.intro (heldB hb (by omega) y2) (And.intro (heldB hb (by omega) p0) (And.intro (heldB hb (by omega) p1) (And.intro (heldB hb (by omega) p2) (heldB hb (by omega) p3)))))))))
      have hd1 := Lib.hid (below_drewN (Below.refl w3.heap.size w3) 1)
      have hle : w.heap.size + 2 ≤ w3.heap.size := by omega
      (first | go_region_held3 (fun W => Below (w.heap.size + 2) w3 W ∧ W.cell? ⟨w.heap.size, 0, none⟩ = some (.int .i64 wd) ∧ W.cell? ⟨w.heap.size, 1, none⟩ = some (.slice (some ⟨bx, ox, none⟩) xs.length c) ∧ W.cell? ⟨w.heap.size + 1, 0, none⟩ = some (.slice b ys.length d) ∧ W.cell? ⟨bx, ox + k * 4, none⟩ = some (.string x.name) ∧ W.cell? ⟨bx, ox + k * 4 + 1, none⟩ = some (.int .i64 x.kind) ∧ W.cell? ⟨bx, ox + k * 4 + 2, none⟩ = some (.int .i64 x.fr) ∧ W.cell? ⟨bx, ox + k * 4 + 3, none⟩ = some (.int .i64 x.to)) (first | exact hS.out _ (below_drewN (Below.refl _ _) 1) | (rename Below (w.heap.size + 2) w3 _ ∧ _ => hH; refine hS.out _ ?_; first | assumption | exact hH.1.setCell (by dsimp only; omega) _)) (first | (go_at_call 58; (refine (hidx3.out _ (bthen hB2.out hd1.out)).mono ?_); rintro e wq0 ⟨rfl, hbq0⟩; have hq0 : Below (w.heap.size + 2) w3 wq0 := (bthen hd1.out hbq0).mono hle) | (go_at_call 33; (refine (hpv.out _ (bthen hB2.out (bthen hd1.out hbq0))).mono ?_); rintro e wq1 ⟨a5, c5, rfl, hown5, hbq1⟩; have hB5 := Lib.hid (bthen hd1.out (bthen hbq0 hbq1)); have hq1 : Below (w.heap.size + 2) w3 wq1 := hB5.out.mono hle; have hr5 := keep hB5.out y3; have hg5 := keepf hB5.out y3 yf; have hl5 := World.block_lt_of_cell? _ _ hr5; have hz5 := Lib.hid (bthen hd1.out hbq0).size; have hown := Lib.hid hown5; clear hown5)) | fail)
      all_goals
        go_wp2_with fail
        refine bodyPost_ret (v := .tuple #[.agg #[.slice a5 M c5], .int .i64 C]) (by simp [results, Tryz.results17, go_sem, *]) rfl ⟨a5, c5, by rw [hf.out.1, hf.out.2]; rw [← hM'.out, ← hC'.out], ?_, (bthen hB2.out hB5.out).setCell (by dsimp only; omega) _⟩
        rw [hf.out.1]
        rw [← hM'.out]
        exact own_mono (ownsRow_setCell_below hown.out (by have := hz5.out; dsimp only; omega) _) (by have := hz5.out; omega)
set_option maxHeartbeats 4000000 in
theorem spec_ChangeItem (wd : Int) (a : Option Addr) (c : Nat) (xs : List Itm) (b : Option Addr) (d : Nat) (ys : List Int) (nm s : ByteArray) (w : World) (hx : RT w a xs) (hy : RI w b ys) (hn : itemsSz xs ≤ 1048576) (hcap : xs.length ≤ c) (hn2 : ys.length ≤ 1048576) (hcap2 : ys.length ≤ d) (hnm : nm.size ≤ 1048576) (hs : s.size ≤ 1048576) :
    Calls Tryz.prog 18 #[.agg #[.int .i64 wd, .slice a xs.length c], .agg #[.slice b ys.length d], .string nm, .string s] w fun e w' => ∃ a' c', e = .returned (.tuple #[.agg #[.slice a' (chgL wd xs ys nm s).length c'], .int .i64 (chgCode wd xs ys nm s)]) ∧ w'.ownsRow w.heap.size 2 1 (.slice a' (chgL wd xs ys nm s).length c') (chgL wd xs ys nm s).length ((chgL wd xs ys nm s).map (Value.int .i64)) ∧ Below w.heap.size w w' := by
  have hb1 := Lib.hid (below_alloc3 w (.cells #[.int .i64 wd, .slice a xs.length c] 26) (.cells #[.slice b ys.length d] 32) (.cells #[.slice none 0 0] 32))
  have hc0 : (((w.alloc (.cells #[.int .i64 wd, .slice a xs.length c] 26)).alloc (.cells #[.slice b ys.length d] 32)).alloc (.cells #[.slice none 0 0] 32)).cell? ⟨w.heap.size, 0, none⟩ = some (.int .i64 wd) := by simp [go_sem]
  have hc1 : (((w.alloc (.cells #[.int .i64 wd, .slice a xs.length c] 26)).alloc (.cells #[.slice b ys.length d] 32)).alloc (.cells #[.slice none 0 0] 32)).cell? ⟨w.heap.size, 1, none⟩ = some (.slice a xs.length c) := by simp [go_sem]
  have hc2 : (((w.alloc (.cells #[.int .i64 wd, .slice a xs.length c] 26)).alloc (.cells #[.slice b ys.length d] 32)).alloc (.cells #[.slice none 0 0] 32)).cell? ⟨w.heap.size + 1, 0, none⟩ = some (.slice b ys.length d) := by simp [go_sem]
  have hc3 : (((w.alloc (.cells #[.int .i64 wd, .slice a xs.length c] 26)).alloc (.cells #[.slice b ys.length d] 32)).alloc (.cells #[.slice none 0 0] 32)).cell? ⟨w.heap.size + 1 + 1, 0, none⟩ = some (.slice none 0 0) := by simp [go_sem]
  have hf3 : (((w.alloc (.cells #[.int .i64 wd, .slice a xs.length c] 26)).alloc (.cells #[.slice b ys.length d] 32)).alloc (.cells #[.slice none 0 0] 32)).frozen? ⟨w.heap.size + 1 + 1, 0, none⟩ = false := by simp [go_sem]
  have hfit := Lib.hid (spec_l04Fits w.heap.size wd a c xs (w.heap.size + 1) b d ys _ hc0 hc1 hc2 (hx.kept hb1.out) (hy.kept hb1.out) hn hn2)
  have hlayf := Lib.hid (fun (h : (layI wd xs [ys] (validCardL ys) == 0) = false) => chg_lay nm s h)
  have h3f := Lib.hid (fun (h : layI wd xs [ys] (validCardL ys) = 0) h2 => chg_3 (nm := nm) s h h2)
  have hpf := Lib.hid (fun (h : layI wd xs [ys] (validCardL ys) = 0) (k : Nat) (x : Itm) h2 hx => chg_pv (nm := nm) (s := s) (k := k) (x := x) h h2 hx)
  have hcards := Lib.hid (fun (h : layI wd xs [ys] (validCardL ys) = 0) (x : Itm) (hxm : x ∈ xs) => fit_card h hxm)
  generalize layI wd xs [ys] (validCardL ys) = L at *
  generalize hW1 : (((w.alloc (.cells #[.int .i64 wd, .slice a xs.length c] 26)).alloc (.cells #[.slice b ys.length d] 32)).alloc (.cells #[.slice none 0 0] 32)) = W1 at *
  cases hL : (L == 0)
  · have hf := Lib.hid (hlayf.out hL)
    have hne : (L != 0) = true := by rw [bne, hL]; rfl
    go_enter Tryz.func18, Tryz.ntmps18
    go_wp2_with fail
    refine hfit.out.mono ?_
    rintro e w2 ⟨rfl, hb⟩
    have hB2 := Lib.hid (bthen hb1.out hb)
    have z3 := keep hb hc3
    have zf := keepf hb hc3 hf3
    have zl := World.block_lt_of_cell? _ _ z3
    clear hb
    go_wp2_with fail
    refine bodyPost_ret (v := .tuple #[.agg #[.slice none 0 0], .int .i64 L]) (by simp [results, Tryz.results18, go_sem, *]) rfl ⟨none, 0, by rw [hf.out.1, hf.out.2]; rfl, by rw [hf.out.1]; exact World.ownsRow_nil _ _ _ _, ?_⟩
    first | exact hB2.out | exact hB2.out.setCell (by dsimp only; omega) _
  obtain rfl : L = 0 := by simpa using hL
  clear hlayf hL
  have hfind := Lib.hid (fun (W : World) (hb : Below W1.heap.size W1 W) => spec_l04Find w.heap.size wd a c xs nm W (keep hb hc1) (hx.kept (bthen hb1.out hb)) hn)
  by_cases hneg : findI xs nm < 0
  · have hf := Lib.hid (h3f.out rfl hneg)
    go_enter Tryz.func18, Tryz.ntmps18
    go_wp2_with fail
    refine hfit.out.mono ?_
    rintro e w2 ⟨rfl, hb⟩
    have hB2 := Lib.hid (bthen hb1.out hb)
    have z3 := keep hb hc3
    have zf := keepf hb hc3 hf3
    have hb2 := Lib.hid hb
    clear hb
    go_wp2_with fail
    refine (hfind.out _ hb2.out).mono ?_
    rintro e w3 ⟨rfl, hb⟩
    have y3 := keep hb z3
    have yf := keepf hb z3 zf
    replace hB2 := Lib.hid (bthen hB2.out hb)
    have yl := World.block_lt_of_cell? _ _ y3
    clear hb
    go_wp2_with fail
    refine bodyPost_ret (v := .tuple #[.agg #[.slice none 0 0], .int .i64 3]) (by simp [results, Tryz.results18, go_sem, *]) rfl ⟨none, 0, by rw [hf.out.1, hf.out.2]; rfl, by rw [hf.out.1]; exact World.ownsRow_nil _ _ _ _, ?_⟩
    first | exact hB2.out | exact hB2.out.setCell (by dsimp only; omega) _
  obtain ⟨k, x, hk, hkl, hxk⟩ := find_at hneg
  have hf := Lib.hid (hpf.out rfl k x hk hxk)
  obtain ⟨g1, g2, g3, g4⟩ := hcards.out rfl x (List.mem_of_getElem? hxk)
  obtain ⟨f1, f2, f3⟩ := fieldB_yes g3
  have hy20 := (validCard_len g1).2
  have hyl0 := (validCard_len g1).1
  have hnn : ¬ (k : Int) < 0 := by omega
  have hkl' : (k : Int) < (xs.length : Int) := by omega
  rw [hk] at hfind
  obtain ⟨bx, ox, rfl, q0, q1, q2, q3⟩ := hx.at hxk
  have hys := Lib.hid hy
  have hpl := Lib.hid (fun (h0 : pvCode x s = 0) => pvL_len h0 (show x.fr ≤ x.to by omega))
  have hsz : sizeX x = (x.to - x.fr).toNat := rfl
  obtain ⟨f, hfr⟩ := Int.eq_ofNat_of_zero_le f1
  have hfit2 := Lib.hid (fun (h0 : pvCode x s = 0) => (show f + (pvL x s).length ≤ ys.length by rw [hpl.out h0, hsz]; omega))
  have hfit3 := Lib.hid (fun (h0 : pvCode x s = 0) => (show (putL ys f (pvL x s)).length = ys.length from putL_length (hfit2.out h0)))
  have hpun := Lib.hid (fun (W : World) (hb : Below w.heap.size w W) => spec_l04Punch bx (ox + k * 4) x s W (keep hb q1) (keep hb q2) (keep hb q3) f1 f2 (by omega) hs)
  have hown2 := Lib.hid (fun (W : World) (hb : Below W1.heap.size W1 W) => spec_l02Own (w.heap.size + 1) b d ys W (keep hb hc2) (hys.out.kept (bthen hb1.out hb)) hn2)
  have hyes := Lib.hid (fun (h : pvCode x s = 0) => pv_yes ys h)
  have hnot := Lib.hid (fun (h : (pvCode x s == 0) = false) => pv_not ys rfl h)
  rw [hfr] at hyes
  have q2' : w.cell? ⟨bx, ox + k * 4 + 2, none⟩ = some (.int .i64 (f : Int)) := by rw [← hfr]; exact q2
  clear hpf h3f hcards hneg hk hxk g1 g2 g3 g4 hx hy q2 f1 f2 f3 hpl hsz
  cases hC : (pvCode x s == 0)
  · obtain ⟨n1, n2, n3⟩ := hnot.out hC
    replace hf := Lib.hid (show chgL wd xs ys nm s = [] ∧ chgCode wd xs ys nm s = pvCode x s from ⟨by rw [hf.out.1, n3], hf.out.2⟩)
    rw [n2] at hpun
    have hne : (pvCode x s != 0) = true := by rw [bne, hC]; rfl
    generalize pvCode x s = C at *
    go_enter Tryz.func18, Tryz.ntmps18
    go_wp2_with fail
    refine hfit.out.mono ?_
    rintro e w2 ⟨rfl, hb⟩
    have hb2 := Lib.hid hb
    clear hb
    go_wp2_with fail
    refine (hfind.out _ hb2.out).mono ?_
    rintro e w3 ⟨rfl, hb⟩
    replace hb2 := Lib.hid (bthen hb2.out hb)
    have y0 := keep hb2.out hc0
    have y1 := keep hb2.out hc1
    clear hb
    go_wp2_with fail
    refine (hpun.out _ (bthen hb1.out hb2.out)).mono ?_
    rintro e w4 ⟨a5, c5, rfl, _, hb⟩
    have y3 := keep hb (keep hb2.out hc3)
    have yf := keepf hb (keep hb2.out hc3) (keepf hb2.out hc3 hf3)
    have yl := World.block_lt_of_cell? _ _ y3
    have hB2 := Lib.hid (bthen hb1.out (bthen hb2.out hb))
    clear hb
    go_wp2_with fail
    refine bodyPost_ret (v := .tuple #[.agg #[.slice none 0 0], .int .i64 C]) (by simp [results, Tryz.results18, go_sem, *]) rfl ⟨none, 0, by rw [hf.out.1, hf.out.2]; rfl, by rw [hf.out.1]; exact World.ownsRow_nil _ _ _ _, ?_⟩
    first | exact hB2.out | exact hB2.out.setCell (by dsimp only; omega) _
  · have hC0 : pvCode x s = 0 := by simpa using hC
    obtain ⟨n1, n2, n3⟩ := hyes.out hC0
    replace hf := Lib.hid (show chgL wd xs ys nm s = putL ys f (pvL x s) ∧ chgCode wd xs ys nm s = 0 from ⟨by rw [hf.out.1, n3, Int.toNat_natCast], by rw [hf.out.2, n1]⟩)
    have hfit4 := hfit2.out hC0
    have hlen := Lib.hid (hfit3.out hC0)
    rw [n2, hC0] at hpun
    clear hC hC0 n1 n2 n3 hyes hnot hfit2 hfit3
    generalize pvL x s = P at *
    go_enter Tryz.func18, Tryz.ntmps18
    go_wp2_with fail
    refine hfit.out.mono ?_
    rintro e w2 ⟨rfl, hb⟩
    have hb2 := Lib.hid hb
    clear hb
    go_wp2_with fail
    refine (hfind.out _ hb2.out).mono ?_
    rintro e w3 ⟨rfl, hb⟩
    replace hb2 := Lib.hid (bthen hb2.out hb)
    have y0 := keep hb2.out hc0
    have y1 := keep hb2.out hc1
    clear hb
    go_wp2_with fail
    refine (hpun.out _ (bthen hb1.out hb2.out)).mono ?_
    rintro e w4 ⟨a5, c5, rfl, hp5, hb⟩
    replace hb2 := Lib.hid (bthen hb2.out hb)
    have hW4 := hb2.out.size
    have hp5' := Lib.hid hp5
    have hpd5 := Lib.hid (fun (p : Addr) (hp : a5 = some p) => (own_at hp5 hp).2)
    clear hb hp5 y0 y1
    go_wp2_with fail
    refine (hown2.out _ hb2.out).mono ?_
    rintro e w5 ⟨a6, c6, rfl, ho6, hb⟩
    have ho6' := Lib.hid (OV.of ho6)
    obtain ⟨g, rfl, hg1, hg2⟩ := ho6'.out.addr (by omega)
    have hba := below_alloc (w := w5) (.cells #[.slice (some ⟨g, 0, none⟩) ys.length c6] 32)
    have hlt45 := hb.size
    replace hb2 := Lib.hid (bthen (bthen hb2.out hb) hba)
    have hcO : (w5.alloc (.cells #[.slice (some ⟨g, 0, none⟩) ys.length c6] 32)).cell? ⟨w5.heap.size, 0, none⟩ = some (.slice (some ⟨g, 0, none⟩) ys.length c6) := by simp [go_sem]
    have y1 := keep hb2.out hc1
    have y3 := keep hb2.out hc3
    have yf := keepf hb2.out hc3 hf3
    have hBB := Lib.hid (bthen hb1.out hb2.out)
    have p2 := keep hBB.out q2'
    have p3 := keep hBB.out q3
    have hput := Lib.hid (spec_l04Put w5.heap.size g w4.heap.size w5.heap.size c6 ys f x.to a5 c5 P _ hcO (Or.inr (Nat.le_refl _)) (by simp) (ho6'.out.kept hba) ((own_RI hp5'.out).kept (bthen hb hba)) (fun p hp => Or.inl (hpd5.out p hp)) hfit4 hn2)
    have hlw : w.heap.size + 1 + 1 < w4.heap.size := by
      have h1 := World.block_lt_of_cell? _ _ hc3
      exact Nat.lt_of_lt_of_le h1 hW4
    clear hb hba ho6
    go_wp2_with fail
    refine hput.out.mono ?_
    rintro e w6 ⟨rfl, hov, hwi⟩
    have x3 := hwi.cell y3 (Or.inl (by dsimp only; omega))
    have xf := hwi.frozen y3 yf (Or.inl (by dsimp only; omega))
    have xO := hwi.cell hcO (Or.inr (Nat.le_refl _))
    have xl := World.block_lt_of_cell? _ _ x3
    have hne1 : ¬ w.heap.size + 1 + 1 = w5.heap.size := by omega
    have hov' := Lib.hid hov
    have hwi' := Lib.hid hwi
    clear hov hwi
    go_wp2_with fail
    refine bodyPost_ret (v := .tuple #[.agg #[.slice (some ⟨g, 0, none⟩) ys.length c6], .int .i64 0]) (by simp [results, Tryz.results18, go_sem, *]) rfl ⟨some ⟨g, 0, none⟩, c6, by rw [hf.out.1, hf.out.2, hlen.out], ?_, (hwi'.out.below hBB.out (by omega) hBB.out.size).setCell (by dsimp only; omega) _⟩
    rw [hf.out.1, hlen.out]
    exact own_mono (ownsRow_setCell_below hov'.out.1 (by dsimp only; omega) _) (by omega)
end Go.Proofs.YtmpfnkheohlmiaaGreatDoor
