/- The walks of the reference's functions that punch a value of an item. -/
import Derived.Test.YtmpfnkheohlmiaaGreatDoorPv
import Derived.Test.YtmpfnkheohlmiaaGreatDoorQJ
import Derived.Deep.RegionWith
namespace Go.Proofs.YtmpfnkheohlmiaaGreatDoor
open Go.RowKit
set_option maxRecDepth 100000
set_option linter.unusedVariables false
set_option linter.unusedSimpArgs false
set_option linter.unnecessarySimpa false

theorem RI.within {lo hi : Nat} {w w' : World} {a : Option Addr} {xs : List Int} (h : RI w a xs) (hw : Within lo hi w w') (hd : ∀ p, a = some p → p.block < lo ∨ hi ≤ p.block) : RI w' a xs := fun j v hj => by
  obtain ⟨b, off, rfl, hc⟩ := h j v hj
  exact ⟨b, off, rfl, hw.cell hc (show b < lo ∨ hi ≤ b from hd _ rfl)⟩
theorem ends_yes {s : ByteArray} (h : s.size - 1 < s.size) (hc : s[s.size - 1]'h = 32) : endsB s = true := by
  unfold endsB
  rw [List.getLast?_eq_getElem?, len_bytes, get_bytes s _ h, hc]; rfl
theorem ends_no {s : ByteArray} (h : s.size - 1 < s.size) (hc : ¬ s[s.size - 1]'h = 32) : endsB s = false := by
  unfold endsB
  rw [List.getLast?_eq_getElem?, len_bytes, get_bytes s _ h]
  simpa using hc
theorem ends_nil {s : ByteArray} (h : s.size = 0) : endsB s = false := by
  unfold endsB
  have := len_bytes s
  rw [List.eq_nil_of_length_eq_zero (show s.data.toList.length = 0 by omega)]; rfl
theorem chars_more {s : ByteArray} {k : Nat} {c : UInt8} (h : Hid ((s.data.toList.take k).all (fun c => charB c.toNat) = true)) (hx : s.data.toList[k]? = some c) (hk : charB c.toNat = true) : Hid ((s.data.toList.take (k + 1)).all (fun c => charB c.toNat) = true) := all_succ hx h.out hk
theorem chars_at {s : ByteArray} {k : Nat} {c : UInt8} (h : charsB s = true) (hx : s.data.toList[k]? = some c) : charB c.toNat = true := by
  unfold charsB at h
  exact List.all_eq_true.1 h c (List.mem_of_getElem? hx)
theorem putL_zero (xs : List Int) (f : Nat) : putL xs f [] = xs := putL_nil xs f
theorem putL_take {xs ps : List Int} {f k : Nat} {y : Int} (hk : ps[k]? = some y) (h : f + ps.length ≤ xs.length) : (putL xs f (ps.take k)).set (f + k) y = putL xs f (ps.take (k + 1)) := by
  have hl := (List.getElem?_eq_some_iff.1 hk).1
  have e : (ps.take k).length = k := by rw [List.length_take]; omega
  have h2 := putL_back (xs := xs) (p := ps.take k) (f := f) (by rw [e]; omega) y
  rw [e] at h2
  rw [h2, List.take_add_one, hk]; rfl
theorem putL_room {xs ps : List Int} {f k : Nat} (hk : k < ps.length) (h : f + ps.length ≤ xs.length) : ∃ x, (putL xs f (ps.take k))[f + k]? = some x := by
  have e : (ps.take k).length = k := by rw [List.length_take]; omega
  have h2 := putL_next (xs := xs) (p := ps.take k) (f := f) (by rw [e]; omega)
  rw [e] at h2; exact h2
set_option maxHeartbeats 2000000 in
theorem spec_l04Put (B g lo hi c : Nat) (vs : List Int) (f : Nat) (t : Int) (a' : Option Addr) (c' : Nat) (ps : List Int) (w : World) (hcB : w.cell? ⟨B, 0, none⟩ = some (.slice (some ⟨g, 0, none⟩) vs.length c)) (hBd : B < lo ∨ hi ≤ B) (hhi : hi ≤ w.heap.size)
    (hov : OV lo hi w 2 1 (some ⟨g, 0, none⟩) vs.length c (vs.map (Value.int .i64))) (hp : RI w a' ps) (hpd : ∀ p, a' = some p → p.block < lo ∨ hi ≤ p.block) (hfit : f + ps.length ≤ vs.length) (hn : vs.length ≤ 1048576) :
    Calls Tryz.prog 36 #[.pointer (some ⟨B, 0, none⟩), .agg #[.int .i64 f, .int .i64 t], .slice a' ps.length c'] w fun e w' => e = .returned (.tuple #[]) ∧ OV lo hi w' 2 1 (some ⟨g, 0, none⟩) vs.length c ((putL vs f ps).map (Value.int .i64)) ∧ Within lo hi w w' := by
  have hba := below_alloc (w := w) (.cells #[.int .i64 f, .int .i64 t] 61)
  have hcF : (w.alloc (.cells #[.int .i64 f, .int .i64 t] 61)).cell? ⟨w.heap.size, 0, none⟩ = some (.int .i64 f) := by simp [go_sem]
  have hcB0 := keep hba hcB
  have hp0 := Lib.hid (hp.kept hba)
  have ho0 : OV lo hi (w.alloc (.cells #[.int .i64 f, .int .i64 t] 61)) 2 1 (some ⟨g, 0, none⟩) vs.length c ((putL vs f (ps.take 0)).map (Value.int .i64)) := by rw [List.take_zero, putL_zero]; exact hov.kept hba
  have hw0 := Lib.hid (Within.of_below hba : Within lo hi w _)
  have hg : lo ≤ g ∧ g < hi := ⟨(own_at hov.1 rfl).1, hov.2 _ rfl⟩
  obtain ⟨hg1, hg2⟩ := hg
  have hgB : ¬ g = B := by omega
  have hgB' : ¬ B = g := by omega
  clear hba hcB hp hov
  go_enter Tryz.func36, Tryz.ntmps36
  go_wp2_with fail
  generalize hW : (w.alloc (.cells #[.int .i64 f, .int .i64 t] 61)) = W at *
  clear hW
  go_loopw [6] (fun i wr => ∃ k : Nat, k ≤ ps.length ∧ i = .int .i64 k ∧ OV lo hi wr 2 1 (some ⟨g, 0, none⟩) vs.length c ((putL vs f (ps.take k)).map (Value.int .i64)) ∧ Within lo hi W wr) (fun i _ => ps.length - (intOf i).toNat)
  case atStart => exact ⟨0, by omega, rfl, ho0, Within.refl _ _ _⟩
  case round =>
    obtain ⟨k, hk, rfl, hok, hwk⟩ := hrel
    have rB := hwk.cell hcB0 (by first | exact hBd | (dsimp only; omega))
    have rF := hwk.cell hcF (Or.inr hhi)
    have rp := Lib.hid (RI.within hp0.out hwk hpd)
    replace hok := Lib.hid hok
    replace hwk := Lib.hid hwk
    by_cases hlt : k < ps.length
    · have hlt' : (k : Int) < (ps.length : Int) := by omega
      obtain ⟨y, hy⟩ := get_some (l := ps) (k := k) hlt
      obtain ⟨bp, op, rfl, hcp⟩ := rp.out.at hy
      obtain ⟨z, hz⟩ := putL_room (xs := vs) (f := f) hlt hfit
      have hset := Lib.hid (putL_take (xs := vs) (f := f) hy hfit)
      have hcg : wr.cell? ⟨g, f + k, none⟩ = some (.int .i64 z) := by rw [hok.out.1.cellAt (f + k) (by omega)]; exact map_at hz
      have hfg := hok.out.1.frozenAt (f + k)
      have hfk : f + k < vs.length := by omega
      have hfk1 : (f : Int) + (k : Int) < (vs.length : Int) := by omega
      have hfk0 : (0 : Int) ≤ (f : Int) + (k : Int) := by omega
      have hfn : ((f : Int) + (k : Int)).toNat = f + k := by omega
      have hw1 : IntKind.i64.wrap ((f : Int) + (k : Int)) = (f : Int) + (k : Int) := IntWalk.i64_in _ (by omega)
      have hgw : ¬ g = w.heap.size := by omega
      have hbg : ¬ bp = g := by have := hpd _ rfl; simp only at this; omega
      have hbg' : ¬ g = bp := fun e => hbg e.symm
      clear hy hz
      go_wp2_with fail
      first | go_region_with (fail) | fail
      all_goals clear hw1
      all_goals go_wp2_with fail
      all_goals
        go_roundw
        case rel => exact ⟨k + 1, by omega, by go_num, by rw [← hset.out, List.map_set]; first | exact (hok.out.store (f + k) _).kept (below_drewN (Below.refl _ _) 1) | exact hok.out.store (f + k) _, by first | exact (hwk.out.setCell (p := ⟨g, f + k, none⟩) hg1 hg2 _).trans (Within.of_below (below_drewN (Below.refl _ _) 1)) | exact (hwk.out.setCell (p := ⟨g, f + k, none⟩) hg1 hg2 _).trans (Within.of_below (Below.refl _ _).drew) | exact hwk.out.setCell (p := ⟨g, f + k, none⟩) hg1 hg2 _⟩
        case measure => simp [intOf]; omega
    · obtain rfl : k = ps.length := by omega
      rw [List.take_length] at hok
      go_wp2_with fail
      go_end0
      exact ⟨rfl, hok.out, hw0.out.trans hwk.out⟩
set_option maxHeartbeats 4000000 in
theorem spec_l04Punch (b1 o1 : Nat) (x : Itm) (s : ByteArray) (w : World) (c1 : w.cell? ⟨b1, o1 + 1, none⟩ = some (.int .i64 x.kind)) (c2 : w.cell? ⟨b1, o1 + 2, none⟩ = some (.int .i64 x.fr)) (c3 : w.cell? ⟨b1, o1 + 3, none⟩ = some (.int .i64 x.to)) (h1 : 0 ≤ x.fr) (h2 : x.fr < x.to) (h3 : x.to ≤ 20) (hs : s.size ≤ 1048576) :
    Calls Tryz.prog 35 #[.pointer (some ⟨b1, o1, none⟩), .string s] w fun e w' => ∃ a' c', e = .returned (.tuple #[.slice a' (pvP x s).length c', .int .i64 (pvCode x s)]) ∧ w'.ownsRow w.heap.size 2 1 (.slice a' (pvP x s).length c') (pvP x s).length ((pvP x s).map (Value.int .i64)) ∧ Below w.heap.size w w' := by
  obtain ⟨nm, kd, f, t⟩ := x
  simp only at c1 c2 c3 h1 h2 h3
  obtain ⟨wd, hwd⟩ : ∃ wd : Nat, t - f = (wd : Int) := ⟨(t - f).toNat, by omega⟩
  have hwd1 : 1 ≤ wd := by omega
  have hwd2 : wd ≤ 20 := by omega
  have hsx : Hid (sizeX ⟨nm, kd, f, t⟩ = wd) := Lib.hid (by unfold sizeX; simp only; omega)
  have htf := Lib.hid (show t - f = (wd : Int) from hwd)
  have htw : IntKind.i64.wrap (t - f) = (wd : Int) := by rw [hwd]; exact IntWalk.i64_in _ (by omega)
  clear hwd
  cases hk : (kd == 2)
  · have hno := Lib.hid (fun (h : charsB s = false) => pvt_7 (x := ⟨nm, kd, f, t⟩) [] hk h)
    have hen := Lib.hid (fun (h : charsB s = true) (h2 : endsB s = true) => pvt_e (x := ⟨nm, kd, f, t⟩) [] hk h h2)
    have hfu := Lib.hid (fun (h : charsB s = true) (h2 : endsB s = false) (h3 : wd < s.size) => pvt_5 (x := ⟨nm, kd, f, t⟩) [] hk h h2 (by show t - f < _; rw [htf.out]; omega))
    have hok := Lib.hid (fun (h : charsB s = true) (h2 : endsB s = false) (h3 : ¬ wd < s.size) => pvt_0 (x := ⟨nm, kd, f, t⟩) [] hk h h2 (by show ¬ t - f < _; rw [htf.out]; omega))
    rw [hsx.out] at hok
    obtain ⟨i0, hi0, hz0, hz1, hz2⟩ := info_parts Tryz.info_int64
    have hm := Lib.hid (show wd ≤ maxLen by simp [maxLen]; omega)
    go_enter Tryz.func35, Tryz.ntmps35
    go_wp2_with fail
    first | go_quiet (fail) | fail
    go_wp2_with fail
    go_loopw [11] (fun i wr => ∃ j : Nat, j ≤ s.size ∧ i = .int .i64 j ∧ Hid ((s.data.toList.take j).all (fun c => charB c.toNat) = true) ∧ Below w.heap.size w wr) (fun i _ => s.size - (intOf i).toNat)
    case atStart => exact ⟨0, by omega, rfl, Lib.hid rfl, below_drewN (Below.refl _ _) _⟩
    case round =>
      obtain ⟨j, hj, rfl, hall, hb⟩ := hrel
      by_cases hlt : j < s.size
      · have hlt' : (j : Int) < (s.size : Int) := by omega
        have hget := get_bytes s j hlt
        cases hch : charB (s[j]'hlt).toNat
        · have hf := Lib.hid (hno.out (by unfold charsB; rw [all_not hget hch]))
          have hneg : codeI (s[j]'hlt).toNat < 0 := by unfold charB at hch; simpa using hch
          clear hget hch
          go_wp2_with (go_at_call 86; ((with_reducible refine (spec_l03Code _ _).mono ?_); rintro e w' ⟨rfl, rfl⟩))
          go_ret2
          exact ⟨none, 0, by rw [hf.out.1, hf.out.2.1]; rfl, by rw [hf.out.2.1]; exact World.ownsRow_nil _ _ _ _, hb⟩
        · have hpos : ¬ codeI (s[j]'hlt).toNat < 0 := by unfold charB at hch; simp only [decide_eq_true_eq] at hch; omega
          have hall' := chars_more hall hget hch
          clear hget hch
          go_wp2_with (go_at_call 86; ((with_reducible refine (spec_l03Code _ _).mono ?_); rintro e w' ⟨rfl, rfl⟩))
          go_roundw
          case rel => exact ⟨j + 1, by omega, by go_num, hall', hb⟩
          case measure => simp [intOf]; omega
      · obtain rfl : j = s.size := by omega
        have hcs : charsB s = true := all_take (l := s.data.toList) (by rw [len_bytes]; exact Nat.le_refl _) hall.out
        obtain ⟨w1, hw1⟩ : ∃ w1, w1 = wr := ⟨_, rfl⟩
        subst hw1
        by_cases hE : endsB s = true
        · have hf := Lib.hid (hen.out hcs hE)
          have h0 : 0 < s.size := by
            rcases Nat.eq_zero_or_pos s.size with h | h
            · rw [ends_nil h] at hE; cases hE
            · exact h
          have hl : s.size - 1 < s.size := by omega
          have hl1 : (s.size : Int) - 1 < (s.size : Int) := by omega
          have hl0 : (0 : Int) ≤ (s.size : Int) - 1 := by omega
          have hcast : (s.size : Int) - 1 = ((s.size - 1 : Nat) : Int) := by omega
          have h0' : (0 : Int) < (s.size : Int) := by omega
          have hc : s[s.size - 1]'hl = 32 := by
            by_cases h : s[s.size - 1]'hl = 32
            · exact h
            · rw [ends_no hl h] at hE; cases hE
          have hcu : (((s[s.size - 1]'hl).toNat : Int) == 32) = true := by rw [hc]; rfl
          clear hc hE hcs
          go_wp2_with fail
          go_ret2
          exact ⟨none, 0, by rw [hf.out.1, hf.out.2.1]; rfl, by rw [hf.out.2.1]; exact World.ownsRow_nil _ _ _ _, hb⟩
        · replace hE : endsB s = false := by simpa using hE
          have hfu' := Lib.hid (hfu.out hcs hE)
          have hok' := Lib.hid (hok.out hcs hE)
          have hca := Lib.hid (fun (k : Nat) (c : UInt8) (hx : s.data.toList[k]? = some c) => chars_at hcs hx)
          have hor : s.size = 0 ∨ ∃ hl : s.size - 1 < s.size, 0 < s.size ∧ (((s[s.size - 1]'hl).toNat : Int) == 32) = false := by
            rcases Nat.eq_zero_or_pos s.size with h | h
            · exact .inl h
            · have hl : s.size - 1 < s.size := by omega
              refine .inr ⟨hl, h, ?_⟩
              have hc : ¬ s[s.size - 1]'hl = 32 := fun h => by rw [ends_yes hl h] at hE; cases hE
              have : ¬ (s[s.size - 1]'hl).toNat = (32 : UInt8).toNat := fun e => hc (UInt8.toNat_inj.1 e)
              simp at this ⊢; omega
          clear hcs hE hall hno hen hfu hok
          by_cases h3 : wd < s.size
          · have h3' : (wd : Int) < (s.size : Int) := by omega
            have hf := Lib.hid (hfu'.out h3)
            rcases hor with hz | ⟨hl, h0, hcu⟩
            · omega
            have hl1 : (s.size : Int) - 1 < (s.size : Int) := by omega
            have hl0 : (0 : Int) ≤ (s.size : Int) - 1 := by omega
            have hcast : (s.size : Int) - 1 = ((s.size - 1 : Nat) : Int) := by omega
            have h0' : (0 : Int) < (s.size : Int) := by omega
            go_wp2_with fail
            go_ret2
            exact ⟨none, 0, by rw [hf.out.1, hf.out.2.1]; rfl, by rw [hf.out.2.1]; exact World.ownsRow_nil _ _ _ _, hb⟩
          · have h3' : ¬ (wd : Int) < (s.size : Int) := by omega
            have hf := Lib.hid (hok'.out h3)
            have hsn : s.size ≤ wd := by omega
            have hln := Lib.hid (punchUp_length s (Nat.le_refl _) hsn)
            have hb1 := Lib.hid hb
            clear hfu' hok' hb
            have hd0 : ∃ q : Bool, decide ((0 : Int) < (s.size : Int)) = q := ⟨_, rfl⟩
            have fin : ∀ (K : Prop), (s.size = 0 → K) → ((hl : s.size - 1 < s.size) → 0 < s.size → (((s[s.size - 1]'hl).toNat : Int) == 32) = false → K) → K := fun K k1 k2 => by
              rcases hor with hz | ⟨hl, h0, hcu⟩
              · exact k1 hz
              · exact k2 hl h0 hcu
            clear hor hd0
            refine fin _ (fun hz => ?_) (fun hl h0 hcu => ?_)
            all_goals clear fin
            · have h0' : ¬ (0 : Int) < (s.size : Int) := by omega
              have h0d : decide ((0 : Int) < (s.size : Int)) = false := decide_eq_false h0'
              go_wp2_with (at_make; refine wpList_make_full _ rfl _ _ 30 rfl w1.heap.size 2 i0 (.int .i64 0) 1 Tryz.underlying30 hi0 hz0 hz1 _ _ _ _ wd rfl rfl rfl rfl (by rw [hz2]; omega) hm.out (Nat.le_refl _) ?_; intro w2 hown hgrow; have hbg := Lib.hid (below_grown hgrow); have hownh := Lib.hid hown; clear hown hgrow)
              have hgl := Lib.hid (own_at hownh.out rfl).2
              have hgl' : w1.heap.size < w2.heap.size := hgl.out
              have hB := Lib.hid (bthen hb1.out hbg.out)
              have hz1' := hb1.out.size
              have ho0 : OV w1.heap.size w2.heap.size w2 2 1 (some ⟨w1.heap.size, 0, none⟩) wd wd ((punchUp s wd 0).map (Value.int .i64)) := by
                rw [punchUp_zero, zerosL_vals]
                refine (OV.of ?_)
                simpa [Value.cells, toList_madeCells_one] using hownh.out
              go_wp2_with fail
              go_loopw [13] (fun i wr => ∃ j : Nat, j ≤ s.size ∧ i = .int .i64 j ∧ OV w1.heap.size w2.heap.size wr 2 1 (some ⟨w1.heap.size, 0, none⟩) wd wd ((punchUp s wd j).map (Value.int .i64)) ∧ Within w1.heap.size w2.heap.size w2 wr) (fun i _ => s.size - (intOf i).toNat)
              case atStart => exact ⟨0, by omega, rfl, ho0, Within.refl _ _ _⟩
              case round =>
                obtain ⟨j, hj, rfl, hoj, hw⟩ := hrel
                by_cases hlt : j < s.size
                · exact absurd hlt (by omega)
                · obtain rfl : j = s.size := by omega
                  go_wp2_with fail
                  go_ret2
                  exact ⟨some ⟨w1.heap.size, 0, none⟩, wd, by rw [hf.out.1, hf.out.2.1, hln.out]; rfl, by rw [hf.out.2.1, hln.out]; exact own_mono hoj.1 hz1', hw.below hB.out hz1' (by have := hB.out.size; omega)⟩
            · have hl1 : (s.size : Int) - 1 < (s.size : Int) := by omega
              have hl0 : (0 : Int) ≤ (s.size : Int) - 1 := by omega
              have hcast : (s.size : Int) - 1 = ((s.size - 1 : Nat) : Int) := by omega
              have h0' : (0 : Int) < (s.size : Int) := by omega
              go_wp2_with (at_make; refine wpList_make_full _ rfl _ _ 30 rfl w1.heap.size 2 i0 (.int .i64 0) 1 Tryz.underlying30 hi0 hz0 hz1 _ _ _ _ wd rfl rfl rfl rfl (by rw [hz2]; omega) hm.out (Nat.le_refl _) ?_; intro w2 hown hgrow; have hbg := Lib.hid (below_grown hgrow); have hownh := Lib.hid hown; clear hown hgrow)
              have hgl := Lib.hid (own_at hownh.out rfl).2
              have hgl' : w1.heap.size < w2.heap.size := hgl.out
              have hB := Lib.hid (bthen hb1.out hbg.out)
              have hz1' := hb1.out.size
              have ho0 : OV w1.heap.size w2.heap.size w2 2 1 (some ⟨w1.heap.size, 0, none⟩) wd wd ((punchUp s wd 0).map (Value.int .i64)) := by
                rw [punchUp_zero, zerosL_vals]
                refine (OV.of ?_)
                simpa [Value.cells, toList_madeCells_one] using hownh.out
              go_wp2_with fail
              go_loopw [13] (fun i wr => ∃ j : Nat, j ≤ s.size ∧ i = .int .i64 j ∧ OV w1.heap.size w2.heap.size wr 2 1 (some ⟨w1.heap.size, 0, none⟩) wd wd ((punchUp s wd j).map (Value.int .i64)) ∧ Within w1.heap.size w2.heap.size w2 wr) (fun i _ => s.size - (intOf i).toNat)
              case atStart => exact ⟨0, by omega, rfl, ho0, Within.refl _ _ _⟩
              case round =>
                obtain ⟨j, hj, rfl, hoj, hw⟩ := hrel
                by_cases hlt : j < s.size
                · have hlt' : (j : Int) < (s.size : Int) := by omega
                  have hget := get_bytes s j hlt
                  have hch := hca.out _ _ hget
                  have hcd := Lib.hid (code0_yes hch)
                  obtain ⟨v, hv⟩ := punchUp_at hlt hsn
                  have hcg := (hoj.1.cellAt j (by omega)).trans hv
                  have hfg := hoj.1.frozenAt j
                  have hset := Lib.hid (punchUp_set hget (by omega : j < wd))
                  have hjn : j < wd := by omega
                  have hjn' : (j : Int) < (wd : Int) := by omega
                  clear hv hget hch
                  go_wp2_with (go_at_call 86; ((with_reducible refine (spec_l03Code _ _).mono ?_); rintro e w' ⟨rfl, rfl⟩))
                  go_roundw
                  case rel => exact ⟨j + 1, by omega, by go_num, by rw [← hset.out, hcd.out]; exact hoj.store j _, hw.setCell (p := ⟨w1.heap.size, j, none⟩) (Nat.le_refl _) hgl' _⟩
                  case measure => simp [intOf]; omega
                · obtain rfl : j = s.size := by omega
                  go_wp2_with fail
                  go_ret2
                  exact ⟨some ⟨w1.heap.size, 0, none⟩, wd, by rw [hf.out.1, hf.out.2.1, hln.out]; rfl, by rw [hf.out.2.1, hln.out]; exact own_mono hoj.1 hz1', hw.below hB.out hz1' (by have := hB.out.size; omega)⟩
  · cases h1 : readL s.data.toList
    · have hf := Lib.hid (pvn_7 (x := ⟨nm, kd, f, t⟩) [] hk (by unfold numOk; rw [h1]; rfl))
      have hrd := Lib.hid (fun W => spec_l01Number s W hs)
      rw [h1] at hrd
      generalize readI s.data.toList = n at *
      go_enter Tryz.func35, Tryz.ntmps35
      go_wp2_with fail
      first | go_quiet (fail) | fail
      go_wp2_with fail
      refine (hrd.out _).mono ?_
      rintro e w2 ⟨rfl, hb⟩
      have hB := Lib.hid (bthen (below_drewN (Below.refl w.heap.size w) _) hb)
      clear hb
      go_wp2_with fail
      go_ret2
      exact ⟨none, 0, by rw [hf.out.1, hf.out.2.1]; rfl, by rw [hf.out.2.1]; exact World.ownsRow_nil _ _ _ _, hB.out⟩
    · have hrd := Lib.hid (fun W => spec_l01Number s W hs)
      rw [h1] at hrd
      have hnum := Lib.hid (fun (q : Bool) (h : inB (readI s.data.toList) (-999999999999) 999999999999 = q) => (show numOk s = q by unfold numOk; rw [h1, h]; rfl))
      have hg5 := Lib.hid (fun (h : inB (readI s.data.toList) (-999999999999) 999999999999 = true) h2 => pvn_5 (x := ⟨nm, kd, f, t⟩) [] hk (hnum.out _ h) h2)
      have hg0 := Lib.hid (fun (h : inB (readI s.data.toList) (-999999999999) 999999999999 = true) h2 => pvn_0 (x := ⟨nm, kd, f, t⟩) [] hk (hnum.out _ h) h2)
      have hg7 := Lib.hid (fun (h : inB (readI s.data.toList) (-999999999999) 999999999999 = false) => pvn_7 (x := ⟨nm, kd, f, t⟩) [] hk (hnum.out _ h))
      clear hnum
      generalize readI s.data.toList = n at *
      cases h2 : inB n (-999999999999) 999999999999
      · have hf := Lib.hid (hg7.out h2)
        go_enter Tryz.func35, Tryz.ntmps35
        go_wp2_with fail
        first | go_quiet (fail) | fail
        go_wp2_with fail
        refine (hrd.out _).mono ?_
        rintro e w2 ⟨rfl, hb⟩
        have hB := Lib.hid (bthen (below_drewN (Below.refl w.heap.size w) _) hb)
        clear hb
        go_wp2_with (go_at_call 82; ((with_reducible refine (spec_l00In _ _ _ _).mono ?_); rintro e w' ⟨rfl, rfl⟩))
        go_ret2
        exact ⟨none, 0, by rw [hf.out.1, hf.out.2.1]; rfl, by rw [hf.out.2.1]; exact World.ownsRow_nil _ _ _ _, hB.out⟩
      · obtain ⟨n0, n1⟩ := inB_true.1 h2
        replace hg5 := Lib.hid (hg5.out h2)
        replace hg0 := Lib.hid (hg0.out h2)
        have hpu := Lib.hid (fun W => spec_l03Put n wd W hwd1 (by omega) n0 n1)
        rw [hsx.out] at hg5 hg0
        clear hg7
        by_cases hfit : Lib.nDigits n.natAbs ≤ wd
        · have hf := Lib.hid (hg0.out hfit)
          have hll := Lib.hid (numL_length wd n.natAbs (decide (n < 0)))
          rw [decide_eq_true hfit] at hpu
          generalize numL wd n.natAbs (decide (n < 0)) = L at *
          clear hfit hg5 hg0
          go_enter Tryz.func35, Tryz.ntmps35
          go_wp2_with fail
          first | go_quiet (fail) | fail
          go_wp2_with fail
          refine (hrd.out _).mono ?_
          rintro e w2 ⟨rfl, hb⟩
          have hB := Lib.hid (bthen (below_drewN (Below.refl w.heap.size w) _) hb)
          clear hb
          go_wp2_with (go_at_call 82; ((with_reducible refine (spec_l00In _ _ _ _).mono ?_); rintro e w' ⟨rfl, rfl⟩))
          refine (hpu.out _).mono ?_
          rintro e w3 ⟨a5, c5, rfl, hown, hb⟩
          go_wp2_with fail
          go_ret2
          exact ⟨a5, c5, by rw [hf.out.1, hf.out.2.1, hll.out]; rfl, by rw [hf.out.2.1, hll.out]; exact own_mono hown hB.out.size, bthen hB.out hb⟩
        · have hf := Lib.hid (hg5.out hfit)
          rw [decide_eq_false hfit] at hpu
          clear hfit hg5 hg0
          go_enter Tryz.func35, Tryz.ntmps35
          go_wp2_with fail
          first | go_quiet (fail) | fail
          go_wp2_with fail
          refine (hrd.out _).mono ?_
          rintro e w2 ⟨rfl, hb⟩
          have hB := Lib.hid (bthen (below_drewN (Below.refl w.heap.size w) _) hb)
          clear hb
          go_wp2_with (go_at_call 82; ((with_reducible refine (spec_l00In _ _ _ _).mono ?_); rintro e w' ⟨rfl, rfl⟩))
          refine (hpu.out _).mono ?_
          rintro e w3 ⟨a5, c5, rfl, hown, hb⟩
          go_wp2_with fail
          go_ret2
          exact ⟨none, 0, by rw [hf.out.1, hf.out.2.1]; rfl, by rw [hf.out.2.1]; exact World.ownsRow_nil _ _ _ _, bthen hB.out hb⟩
end Go.Proofs.YtmpfnkheohlmiaaGreatDoor
