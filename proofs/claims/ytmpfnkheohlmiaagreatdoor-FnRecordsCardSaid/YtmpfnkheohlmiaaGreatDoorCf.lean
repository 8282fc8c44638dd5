/- The walks of the two functions that punch a card of all values: what each returns, and that memory has at most new blocks. -/
import Derived.Test.YtmpfnkheohlmiaaGreatDoorPv
import Derived.Test.YtmpfnkheohlmiaaGreatDoorPvS
import Derived.Test.YtmpfnkheohlmiaaGreatDoorQL
import Derived.Test.YtmpfnkheohlmiaaGreatDoorQC
namespace Go.Proofs.YtmpfnkheohlmiaaGreatDoor
open Go.RowKit
set_option maxRecDepth 100000
set_option linter.unusedVariables false
set_option linter.unusedSimpArgs false
set_option linter.unnecessarySimpa false

theorem own_set_ne {w : World} {B e size n c g j : Nat} {a : Option Addr} {xs : List Value} (h : w.ownsRow B e size (.slice a n c) n xs) (hne : ∀ p, a = some p → ¬ p.block = g) (u : Value) : (w.setCell ⟨g, j, none⟩ u).ownsRow B e size (.slice a n c) n xs := by
  obtain ⟨h1, h2 | ⟨g', cap, cur, hv, hg, hc, r⟩⟩ := h
  · exact ⟨h1, .inl h2⟩
  · refine ⟨h1, .inr ⟨g', cap, cur, hv, hg, ?_, r⟩⟩
    simp only [Value.slice.injEq] at hv
    have := hne _ hv.1
    rw [Below.heap_setCell _ _ _ _ (show g' ≠ g from this)]
    exact hc
theorem cfUp_len {m : Nat} {xs : List Itm} {vs : List ByteArray} (hf : ∀ x ∈ xs, fieldB x.fr x.to m = true) (hl : vs.length = xs.length) : ∀ k, k ≤ xs.length → ((zipV xs vs).take k).all okV = true → (cfUp m xs vs k).length = m
  | 0, _, _ => by rw [cfUp_zero]; exact zerosL_length m
  | k + 1, hk, ha => by
    obtain ⟨x, hx⟩ := get_some (l := xs) (k := k) (by omega)
    obtain ⟨v, hv⟩ := get_some (l := vs) (k := k) (by omega)
    have hz := zipV_at hx hv
    rw [List.take_add_one, hz, List.all_append] at ha
    simp only [Bool.and_eq_true] at ha
    have ih := cfUp_len hf hl k (by omega) ha.1
    have h0 : pvCode x v = 0 := by
      have := ha.2
      unfold okV at this
      simpa using this
    rw [cfUp_succ hx hv, pvR_len (by rw [ih]; exact hf x (List.mem_of_getElem? hx)) h0, ih]
theorem cfL_len (wd : Int) (xs : List Itm) (vs : List ByteArray) : (cfL wd xs vs).length ≤ 1048576 := by
  unfold cfL
  cases h : (cfCode wd xs vs == 0)
  · simp
  · simp only [if_true]
    have h0 : cfCode wd xs vs = 0 := by simpa using h
    unfold cfCode at h0
    cases hv : validLayB wd xs
    · rw [hv] at h0; simp at h0
    · rw [hv] at h0
      simp only [if_true] at h0
      by_cases hl : vs.length = xs.length
      · rw [if_pos hl] at h0
        obtain ⟨w1, w2, _, _⟩ := validLay_is hv
        have hf : ∀ x ∈ xs, fieldB x.fr x.to wd.toNat = true := fun x hx => by
          obtain ⟨q1, q2, q3⟩ := itemB_field (validLay_item hv hx)
          exact fieldB_ok q1 q2 (by omega)
        have ha : ((zipV xs vs).take xs.length).all okV = true := by
          unfold firstC at h0
          rw [List.all_eq_true]
          intro p hp
          cases hq : okV p
          · exfalso
            have hm := List.mem_of_mem_take hp
            cases hfd : (zipV xs vs).find? (fun p => !okV p) with
            | none =>
              rw [List.find?_eq_none] at hfd
              exact hfd p hm (by simp [hq])
            | some q =>
              rw [hfd] at h0
              have := List.find?_some hfd
              simp only [Bool.not_eq_true'] at this
              unfold okV at this
              simp only at h0
              rw [h0] at this; cases this
          · rfl
        rw [cfUp_len hf hl xs.length (Nat.le_refl _) ha]; omega
      · rw [if_neg hl] at h0; cases h0
theorem ok_more {xs : List Itm} {vs : List ByteArray} {k : Nat} {x : Itm} {v : ByteArray} (hx : xs[k]? = some x) (hv : vs[k]? = some v) (ha : ((zipV xs vs).take k).all okV = true) (h0 : okV (x, v) = true) : ((zipV xs vs).take (k + 1)).all okV = true := all_succ (zipV_at hx hv) ha h0
set_option maxHeartbeats 4000000 in
theorem impl_CardFor (wd : Int) (a : Option Addr) (c : Nat) (xs : List Itm) (b : Option Addr) (d : Nat) (vs : List ByteArray) (w : World) (hx : RT w a xs) (hv : RS w b vs) (hn : itemsSz xs ≤ 1048576) (hcap : xs.length ≤ c) (hn2 : textsSz vs ≤ 1048576) (ht : Pow10 w) (he : Errs w) :
    Calls Tryz.prog 6 #[.agg #[.int .i64 wd, .slice a xs.length c], .slice b vs.length d] w fun e w' => ∃ a' c', e = .returned (.tuple #[.agg #[.slice a' (cfL wd xs vs).length c'], .int .i64 (cfCode wd xs vs)]) ∧ w'.ownsRow w.heap.size 2 1 (.slice a' (cfL wd xs vs).length c') (cfL wd xs vs).length ((cfL wd xs vs).map (Value.int .i64)) ∧ Below w.heap.size w w' := by
  have hb1 := Lib.hid (below_alloc2 w (.cells #[.int .i64 wd, .slice a xs.length c] 26) (.cells #[.slice none 0 0] 32))
  have hval := Lib.hid (fun (W : World) (hb : Below w.heap.size w W) => impl_ValidLayout wd a c xs W (hx.kept hb) hn hcap)
  have hsl := textsSz_len vs
  have hxl := itemsSz_len xs
  cases hvl : validLayB wd xs
  · have hf := Lib.hid (cfv_1 vs hvl)
    rw [hvl] at hval
    go_enter Tryz.func6, Tryz.ntmps6
    go_wp2_with fail
    refine (hval.out _ hb1.out).mono ?_
    rintro e w2 ⟨rfl, hb⟩
    (have hc0 := keep (p := ⟨w.heap.size + 1, 0, none⟩) (v := .slice none 0 0) hb (by simp [go_sem, *]); have hf0 := keepf (p := ⟨w.heap.size + 1, 0, none⟩) (v := .slice none 0 0) hb (by simp [go_sem, *]) (by simp [go_sem, *]); have hl0 := World.block_lt_of_cell? _ _ hc0)
    have hB2 := Lib.hid (bthen hb1.out hb)
    clear hb
    go_wp2_with fail
    refine bodyPost_ret (v := .tuple #[.agg #[.slice none 0 0], .int .i64 1]) (by simp [results, Tryz.results6, go_sem, *]) rfl ⟨none, 0, by rw [hf.out.1, hf.out.2]; rfl, by rw [hf.out.1]; exact World.ownsRow_nil _ _ _ _, ?_⟩
    first | exact hB2.out | exact hB2.out.setCell (by dsimp only; omega) _
  rw [hvl] at hval
  by_cases hlen : vs.length = xs.length
  · obtain ⟨w1_, w2_, w3_, _⟩ := validLay_is hvl
    obtain ⟨m, rfl⟩ := Int.eq_ofNat_of_zero_le (show 0 ≤ wd by omega)
    have hne : ((vs.length : Int) != (xs.length : Int)) = false := by rw [hlen]; simp
    have hflds := Lib.hid (fun (x : Itm) (hxm : x ∈ xs) => (show fieldB x.fr x.to m = true by
      obtain ⟨q1, q2, q3⟩ := itemB_field (validLay_item hvl hxm)
      exact fieldB_ok q1 q2 (by omega)))
    have hbad := Lib.hid (fun (k : Nat) (x : Itm) (v : ByteArray) h1 h2 h3 h4 => cfv_bad (k := k) (x := x) (v := v) hvl hlen h1 h2 h3 h4)
    have hok := Lib.hid (fun h => cfv_ok hvl hlen h)
    rw [Int.toNat_natCast] at hok
    have hln := Lib.hid (fun k h1 h2 => cfUp_len (m := m) (vs := vs) hflds.out hlen k h1 h2)
    have hlen' := Lib.hid hlen
    have hxs := Lib.hid hx
    have hvs := Lib.hid hv
    clear hvl hx hv
    go_enter Tryz.func6, Tryz.ntmps6
    go_wp2_with fail
    refine (hval.out _ hb1.out).mono ?_
    rintro e w2 ⟨rfl, hb⟩
    (have hc0 := keep (p := ⟨w.heap.size, 0, none⟩) (v := .int .i64 m) hb (by simp [go_sem, *]); have hf0 := keepf (p := ⟨w.heap.size, 0, none⟩) (v := .int .i64 m) hb (by simp [go_sem, *]) (by simp [go_sem, *]); have hl0 := World.block_lt_of_cell? _ _ hc0; have hc1 := keep (p := ⟨w.heap.size, 1, none⟩) (v := .slice a xs.length c) hb (by simp [go_sem, *]); have hf1 := keepf (p := ⟨w.heap.size, 1, none⟩) (v := .slice a xs.length c) hb (by simp [go_sem, *]) (by simp [go_sem, *]); have hl1 := World.block_lt_of_cell? _ _ hc1; have hc2 := keep (p := ⟨w.heap.size + 1, 0, none⟩) (v := .slice none 0 0) hb (by simp [go_sem, *]); have hf2 := keepf (p := ⟨w.heap.size + 1, 0, none⟩) (v := .slice none 0 0) hb (by simp [go_sem, *]) (by simp [go_sem, *]); have hl2 := World.block_lt_of_cell? _ _ hc2)
    have hB2 := Lib.hid (bthen hb1.out hb)
    clear hb
    go_wp2_with fail
    refine (impl_blank m _ (by omega)).mono ?_
    rintro e w4 ⟨a4, c4, rfl, ho4, hb⟩
    have hba := below_alloc (w := w4) (.cells #[.slice a4 m c4] 32)
    have hg4 := Lib.hid (fun (p : Addr) (hp : a4 = some p) => (own_at ho4 hp).2)
    have ho4' := Lib.hid (show (w4.alloc (.cells #[.slice a4 m c4] 32)).ownsRow w2.heap.size 2 1 (.slice a4 m c4) m ((cfUp m xs vs 0).map (Value.int .i64)) by
      rw [cfUp_zero]; exact ho4.alloc _)
    have hcO : (w4.alloc (.cells #[.slice a4 m c4] 32)).cell? ⟨w4.heap.size, 0, none⟩ = some (.slice a4 m c4) := by simp [go_sem]
    have hfO : (w4.alloc (.cells #[.slice a4 m c4] 32)).frozen? ⟨w4.heap.size, 0, none⟩ = false := by simp [go_sem]
    have hBW := Lib.hid (bthen (bthen hB2.out hb) hba)
    have y0 := keep hba (keep hb hc0)
    have y1 := keep hba (keep hb hc1)
    have y3 := keep hba (keep hb hc2)
    have yf := keepf hba (keep hb hc2) (keepf hb hc2 hf2)
    have hz24 := hb.size
    have hl2' : w.heap.size + 1 < w2.heap.size := hl2
    have yl : w.heap.size + 1 < w4.heap.size := World.block_lt_of_cell? _ _ (keep hb hc2)
    clear hb hba ho4 hc0 hc1 hc2 hf0 hf1 hf2 hl0 hl1 hl2
    go_wp2_with fail
    generalize hW : (w4.alloc (.cells #[.slice a4 m c4] 32)) = W at *
    clear hW
    go_loopw [29] (fun i wr => ∃ (k : Nat) (a' : Option Addr) (c' : Nat), k ≤ xs.length ∧ i = .int .i64 k ∧ wr.cell? ⟨w4.heap.size, 0, none⟩ = some (.slice a' m c') ∧ wr.frozen? ⟨w4.heap.size, 0, none⟩ = false ∧ Hid (wr.ownsRow w2.heap.size 2 1 (.slice a' m c') m ((cfUp m xs vs k).map (Value.int .i64))) ∧ Hid (∀ p, a' = some p → ¬ p.block = w4.heap.size) ∧ Hid (((zipV xs vs).take k).all okV = true) ∧ Hid (Within w4.heap.size (w4.heap.size + 1) W wr)) (fun i _ => xs.length - (intOf i).toNat)
    case atStart => exact ⟨0, a4, c4, by omega, rfl, hcO, hfO, ho4', Lib.hid (fun p hp e => by have := hg4.out p hp; omega), Lib.hid rfl, Lib.hid (Within.refl _ _ _)⟩
    case round =>
      obtain ⟨k, a5, c5, hk, rfl, rO, rfO, hown, hgne, hall, hwi⟩ := hrel
      have r0 := hwi.out.cell y0 (Or.inl (by dsimp only; omega))
      have r1 := hwi.out.cell y1 (Or.inl (by dsimp only; omega))
      have r3 := hwi.out.cell y3 (Or.inl (by dsimp only; omega))
      have rf := hwi.out.frozen y3 yf (Or.inl (by dsimp only; omega))
      have rl := World.block_lt_of_cell? _ _ r3
      have rlO := World.block_lt_of_cell? _ _ rO
      by_cases hlt : k < xs.length
      · have hlt' : (k : Int) < (vs.length : Int) := by omega
        have hltx : (k : Int) < (xs.length : Int) := by omega
        obtain ⟨x, hxk⟩ := get_some (l := xs) (k := k) hlt
        obtain ⟨v, hvk⟩ := get_some (l := vs) (k := k) (by omega)
        obtain ⟨bx, ox, rfl, q0, q1, q2, q3⟩ := hxs.out.at hxk
        obtain ⟨bv, ov, rfl, qv⟩ := hvs.out.at hvk
        have hbx := World.block_lt_of_cell? _ _ q0
        have hbv := World.block_lt_of_cell? _ _ qv
        have hbx' : bx < w.heap.size := hbx
        have hbv' : bv < w.heap.size := hbv
        have p0 := hwi.out.cell (keep hBW.out q0) (Or.inl (by dsimp only; omega))
        have p1 := hwi.out.cell (keep hBW.out q1) (Or.inl (by dsimp only; omega))
        have p2 := hwi.out.cell (keep hBW.out q2) (Or.inl (by dsimp only; omega))
        have p3 := hwi.out.cell (keep hBW.out q3) (Or.inl (by dsimp only; omega))
        have pv := hwi.out.cell (keep hBW.out qv) (Or.inl (by dsimp only; omega))
        have hfx := hflds.out x (List.mem_of_getElem? hxk)
        have hlk := hln.out k hk hall.out
        have hvsz := textsSz_mem (List.mem_of_getElem? hvk) hn2
        have hBr := Lib.hid (hwi.out.below hBW.out (by omega) hBW.out.size)
        have hpun := Lib.hid (fun (V : World) (hb : Below wr.heap.size wr V) => (show Calls Tryz.prog 33 #[.agg #[.slice a5 m c5], .agg #[.string x.name, .int .i64 x.kind, .int .i64 x.fr, .int .i64 x.to], .string v] V fun e w' => ∃ a' c', e = .returned (.tuple #[.agg #[.slice a' (pvR (cfUp m xs vs k) x v).length c'], .int .i64 (pvCode x v)]) ∧ w'.ownsRow V.heap.size 2 1 (.slice a' (pvR (cfUp m xs vs k) x v).length c') (pvR (cfUp m xs vs k) x v).length ((pvR (cfUp m xs vs k) x v).map (Value.int .i64)) ∧ Below V.heap.size V w' by
          have hr : RI V a5 (cfUp m xs vs k) := (own_RI (c := c5) (n := m) (B := w2.heap.size) (e := 2) hown.out).kept hb
          have h := impl_punchValue a5 c5 (cfUp m xs vs k) x v V hr (by rw [hlk]; omega) (by rw [hlk]; exact hfx) hvsz (TabIs.kept ht (bthen hBr.out hb)) (Errs.kept he (bthen hBr.out hb))
          rw [hlk] at h; exact h))
        have hbd := Lib.hid (fun h => hbad.out k x v hxk hvk hall.out h)
        have hmo := Lib.hid (fun h => ok_more hxk hvk hall.out h)
        have hnx := Lib.hid (fun (h : pvCode x v = 0) => (show (pvR (cfUp m xs vs k) x v) = cfUp m xs vs (k + 1) by rw [cfUp_succ hxk hvk]; exact (pv_yes _ h).2.2))
        have hok1 : okV (x, v) = (pvCode x v == 0) := rfl
        have hok1' := Lib.hid hok1
        have hlk1 := Lib.hid (fun h => hln.out (k + 1) (by omega) h)
        clear hxk hvk q0 q1 q2 q3 qv hfx hlk hok1 hbx hbv
        generalize hR : pvR (cfUp m xs vs k) x v = R at *
        clear hR
        go_upto_region 9 with (fail)
        go_cut [9, 10] from 34 to 44 (fun s9 s10 wx => ∃ (B : Nat) (a : Option Addr) (c : Nat), s9 = .pointer (some ⟨B, 0, none⟩) ∧ s10 = .int .i64 (pvCode x v) ∧ wx.cell? ⟨B, 0, none⟩ = some (.slice a R.length c) ∧ OI (wr.heap.size) (wx.heap.size) wx 2 a c R ∧ wr.heap.size ≤ B ∧ Below wr.heap.size wr wx)
        case first =>
          have hS := Lib.hid (fun (V : World) (hb : Below wr.heap.size wr V) => (And.intro hb (And.intro (keep hb r0) (And.intro (keep hb r1) (And.intro (keep hb rO) (And.intro (keep hb p0) (And.intro (keep hb p1) (And.intro (keep hb p2) (keep hb p3)))))))))
          (first | go_region_held3 (fun V => Below wr.heap.size wr V ∧ V.cell? ⟨w.heap.size, 0, none⟩ = some (.int .i64 m) ∧ V.cell? ⟨w.heap.size, 1, none⟩ = some (.slice (some ⟨bx, ox, none⟩) xs.length c) ∧ V.cell? ⟨w4.heap.size, 0, none⟩ = some (.slice a5 m c5) ∧ V.cell? ⟨bx, ox + k * 4, none⟩ = some (.string x.name) ∧ V.cell? ⟨bx, ox + k * 4 + 1, none⟩ = some (.int .i64 x.kind) ∧ V.cell? ⟨bx, ox + k * 4 + 2, none⟩ = some (.int .i64 x.fr) ∧ V.cell? ⟨bx, ox + k * 4 + 3, none⟩ = some (.int .i64 x.to)) (first | exact hS.out _ (below_drewN (Below.refl _ _) 1) | (rename Below wr.heap.size wr _ ∧ _ => hH; refine hS.out _ ?_; first | (refine bthen hH.1 ?_; assumption) | exact hH.1.alloc hH.1.size _ | (refine below_realloc hH.1 ?_; omega) | (refine hH.1.setCell ?_ _; dsimp only; omega))) (first | (go_at_call 33; (have hLL := (And.left ‹Below wr.heap.size wr _ ∧ _›).size; refine (hpun.out _ (And.left ‹Below wr.heap.size wr _ ∧ _›)).mono ?_); rintro e wq0 ⟨a15, c16, rfl, ho17, hbq0⟩; have hq := bcell hbq0; obtain ⟨hqa, hqb⟩ := hq; have hqs := hbq0.size; have hle := Nat.le_trans hLL hqs; (try simp only [World.size_alloc, World.size_drew] at hqs))) | fail)
          all_goals
            go_wp2_with fail
            go_meet
            rename Below wr.heap.size wr _ ∧ _ => hH
            refine ⟨_, a15, c16, rfl, rfl, by simp [go_sem, *], ?_, by first | exact Nat.le_refl _ | omega | (simp only [World.size_alloc]; omega), hH.1⟩
            first | (refine cut_alloc ho17 _ ?_; first | exact Nat.le_refl _ | omega | (simp only [World.size_alloc]; omega)) | (refine cut_set ho17 _ ?_ ?_ <;> first | exact Nat.le_refl _ | omega | (simp only [World.size_alloc, World.size_drew]; omega) | (simp; done) | (simp; omega))
        obtain ⟨b20, a21, c22, rfl, rfl, hc25, ho23, hge, hb24⟩ := hcut
        rename World => w19
        have s3 := keep hb24 r3
        have sf := keepf hb24 r3 rf
        have sO := keep hb24 rO
        have sfO := keepf hb24 rO rfO
        have sl := World.block_lt_of_cell? _ _ s3
        have slO := World.block_lt_of_cell? _ _ sO
        have hb24' := Lib.hid hb24
        have hag := Lib.hid (fun (p : Addr) (hp : a21 = some p) => (show ¬ p.block = w4.heap.size by
          have h1 := (own_at ho23.1 hp).1
          have h2 : w4.heap.size < wr.heap.size := rlO
          omega))
        have ho23' := Lib.hid ho23
        have hbne : ¬ b20 = w4.heap.size := by
          have h2 : w4.heap.size < wr.heap.size := rlO
          omega
        clear hb24 ho23
        cases hC : (pvCode x v == 0)
        · have hf := Lib.hid (hbd.out (by rw [hok1'.out]; exact hC))
          have hne2 : (pvCode x v != 0) = true := by rw [bne, hC]; rfl
          have hB9 := Lib.hid (bthen hBr.out hb24'.out)
          generalize pvCode x v = C at *
          go_wp2_with fail
          refine bodyPost_ret (v := .tuple #[.agg #[.slice none 0 0], .int .i64 C]) (by simp [results, Tryz.results6, go_sem, *]) rfl ⟨none, 0, by rw [hf.out.1, hf.out.2]; rfl, by rw [hf.out.1]; exact World.ownsRow_nil _ _ _ _, ?_⟩
          first | exact hB9.out | exact hB9.out.setCell (by dsimp only; omega) _
        · have hC0 : pvCode x v = 0 := by simpa using hC
          have hall2 := Lib.hid (hmo.out (by rw [hok1'.out]; exact hC))
          have hRe := hnx.out hC0
          subst hRe
          have hlk2 := hlk1.out hall2.out
          have hne2 : (pvCode x v != 0) = false := by rw [bne, hC]; rfl
          rw [hC0] at *
          have ho24 := Lib.hid (show w19.ownsRow wr.heap.size 2 1 (.slice a21 m c22) m ((cfUp m xs vs (k + 1)).map (Value.int .i64)) by have h := ho23'.out.1; rw [hlk2] at h; exact h)
          rw [hlk2] at hc25
          clear ho23' hlk2 hlk1 hnx hmo hbd
          go_wp2_with fail
          go_roundw
          case rel => exact ⟨k + 1, a21, c22, by omega, by go_num, by simp [go_sem, *], by simp [go_sem, *], Lib.hid (own_set_ne (own_mono ho24.out (by have h2 : w4.heap.size < wr.heap.size := rlO; omega)) hag.out _), hag, hall2, Lib.hid ((hwi.out.trans (Within.of_below hb24'.out)).setCell (p := ⟨w4.heap.size, 0, none⟩) (Nat.le_refl _) (Nat.lt_succ_self _) _)⟩
          case measure => simp [intOf]; omega
      · obtain rfl : k = xs.length := by omega
        have hge' : ¬ (xs.length : Int) < (vs.length : Int) := by omega
        have hf := Lib.hid (hok.out hall.out)
        have hlk := Lib.hid (hln.out _ (Nat.le_refl _) hall.out)
        have hBr := Lib.hid (hwi.out.below hBW.out (by omega) hBW.out.size)
        have hne9 : ¬ w.heap.size + 1 = w4.heap.size := by omega
        go_wp2_with fail
        refine bodyPost_ret (v := .tuple #[.agg #[.slice a5 m c5], .int .i64 0]) (by simp [results, Tryz.results6, go_sem, *]) rfl ⟨a5, c5, by rw [hf.out.1, hf.out.2, hlk.out], ?_, hBr.out.setCell (by dsimp only; omega) _⟩
        rw [hf.out.1, hlk.out]
        exact own_mono (ownsRow_setCell_below hown.out (by dsimp only; omega) _) hB2.out.size
  · have hf := Lib.hid (cfv_2 hvl hlen)
    have hne : ((vs.length : Int) != (xs.length : Int)) = true := by simp; omega
    go_enter Tryz.func6, Tryz.ntmps6
    go_wp2_with fail
    refine (hval.out _ hb1.out).mono ?_
    rintro e w2 ⟨rfl, hb⟩
    (have hc0 := keep (p := ⟨w.heap.size, 0, none⟩) (v := .int .i64 wd) hb (by simp [go_sem, *]); have hf0 := keepf (p := ⟨w.heap.size, 0, none⟩) (v := .int .i64 wd) hb (by simp [go_sem, *]) (by simp [go_sem, *]); have hl0 := World.block_lt_of_cell? _ _ hc0; have hc1 := keep (p := ⟨w.heap.size, 1, none⟩) (v := .slice a xs.length c) hb (by simp [go_sem, *]); have hf1 := keepf (p := ⟨w.heap.size, 1, none⟩) (v := .slice a xs.length c) hb (by simp [go_sem, *]) (by simp [go_sem, *]); have hl1 := World.block_lt_of_cell? _ _ hc1; have hc2 := keep (p := ⟨w.heap.size + 1, 0, none⟩) (v := .slice none 0 0) hb (by simp [go_sem, *]); have hf2 := keepf (p := ⟨w.heap.size + 1, 0, none⟩) (v := .slice none 0 0) hb (by simp [go_sem, *]) (by simp [go_sem, *]); have hl2 := World.block_lt_of_cell? _ _ hc2)
    have hB2 := Lib.hid (bthen hb1.out hb)
    clear hb
    go_wp2_with fail
    refine bodyPost_ret (v := .tuple #[.agg #[.slice none 0 0], .int .i64 2]) (by simp [results, Tryz.results6, go_sem, *]) rfl ⟨none, 0, by rw [hf.out.1, hf.out.2]; rfl, by rw [hf.out.1]; exact World.ownsRow_nil _ _ _ _, ?_⟩
    first | exact hB2.out | exact hB2.out.setCell (by dsimp only; omega) _
end Go.Proofs.YtmpfnkheohlmiaaGreatDoor
