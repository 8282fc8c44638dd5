/- The walks of the functions that punch cards by a program card and keys: what each returns, and that memory has at most new blocks. -/
import Derived.Test.YtoeohebobmkobaaKeyedL
import Derived.Test.YtoeohebobmkobaaDeck
import Derived.Test.YtoeohebobmkobaaLay
import Derived.Test.YtoeohebobmkobaaApp
import Derived.Deep.RegionWith
import Derived.Deep.RegionHeld3
namespace Go.Proofs.Ytoeohebobmkobaa
open Go.RowKit
set_option maxRecDepth 100000
set_option linter.unusedVariables false
set_option linter.unusedSimpArgs false
set_option linter.unnecessarySimpa false

/-- the code of a program card and some cards -/
def pcL (s : ByteArray) (v : Bool) (xss : List (List Int)) : Int := if validProgL s.data.toList then (if v then (if xss.all validCardL then (if xss.all (fun x => decide (x.length = s.size)) then 0 else 2) else 1) else 1) else 1
theorem pcL_one (s : ByteArray) (xs : List Int) : pcL s true [xs] = progI s xs := by
  unfold pcL progI
  cases h0 : validProgL s.data.toList <;> cases h1 : validCardL xs <;> by_cases h : xs.length = s.size <;> simp [*]
theorem pcL_two (s : ByteArray) (xs ys : List Int) : pcL s true [xs, ys] = progII s xs ys := by
  unfold pcL progII
  cases h0 : validProgL s.data.toList <;> cases h1 : validCardL xs <;> cases h2 : validCardL ys <;> by_cases h : xs.length = s.size <;> by_cases h' : ys.length = s.size <;> simp [*]
theorem pc_p {s : ByteArray} (v : Bool) (xss : List (List Int)) (h : validProgL s.data.toList = false) : pcL s v xss = 1 := by unfold pcL; rw [h]; rfl
theorem pc_v (s : ByteArray) (xss : List (List Int)) : pcL s false xss = 1 := by unfold pcL; cases validProgL s.data.toList <;> rfl
theorem pc_c {s : ByteArray} {xss : List (List Int)} (h : validProgL s.data.toList = true) (h1 : xss.all validCardL = false) : pcL s true xss = 1 := by unfold pcL; rw [h, h1]; rfl
theorem pc_n {s : ByteArray} {xss : List (List Int)} (h : validProgL s.data.toList = true) (h1 : xss.all validCardL = true) (h2 : xss.all (fun x => decide (x.length = s.size)) = false) : pcL s true xss = 2 := by unfold pcL; rw [h, h1, h2]; rfl
theorem pc_ok {s : ByteArray} {xss : List (List Int)} (h : validProgL s.data.toList = true) (h1 : xss.all validCardL = true) (h2 : xss.all (fun x => decide (x.length = s.size)) = true) : pcL s true xss = 0 := by unfold pcL; rw [h, h1, h2]; rfl
theorem all_upto' {α : Type} {l : List α} {p : α → Bool} {k : Nat} {x : α} (h : Hid ((l.take k).all p = true)) (hx : l[k]? = some x) (hp : p x = true) : Hid ((l.take (k + 1)).all p = true) := all_succ hx h.out hp
set_option maxHeartbeats 1000000 in
theorem impl_programCode (s : ByteArray) (v : Bool) (a : Option Addr) (c : Nat) (xss : List (List Int)) (w : World) (hs : s.size ≤ 1048576) (hx : RDx w a xss) (hn : deckSz xss ≤ 4194304) :
    Calls Try.prog 41 #[.string s, .bool v, .slice a xss.length c] w fun e w' => e = .returned (.int .i64 (pcL s v xss)) ∧ Below w.heap.size w w' := by
  have hsm : s.size ≤ maxLen := small hs
  cases hp : validProgL s.data.toList
  · have hf := Lib.hid (pc_p v xss hp)
    go_enter Try.func41, Try.ntmps41
    go_wp2_with (go_at_call 68; ((with_reducible refine (impl_ValidProgram s hsm _).mono ?_); rintro e w' ⟨rfl, rfl⟩))
    go_ret
    exact ⟨ret_int (by rw [hf.out]), Below.refl _ _⟩
  cases v
  · have hf := Lib.hid (pc_v s xss)
    go_enter Try.func41, Try.ntmps41
    go_wp2_with (go_at_call 68; ((with_reducible refine (impl_ValidProgram s hsm _).mono ?_); rintro e w' ⟨rfl, rfl⟩))
    go_ret
    exact ⟨ret_int (by rw [hf.out]), Below.refl _ _⟩
  have hp' := Lib.hid hp
  clear hp
  have hdl := deckSz_len xss
  have hn' := Lib.hid hn
  have hvp := Lib.hid (fun W => by have := impl_ValidProgram s hsm W; rw [hp'.out] at this; exact this)
  generalize hN : xss.length = n at *
  have hN' := Lib.hid hN
  clear hN
  go_enter Try.func41, Try.ntmps41
  go_wp2_with (go_at_call 68; ((with_reducible refine (hvp.out _).mono ?_); rintro e w' ⟨rfl, rfl⟩))
  go_loopw [20] (fun i wr => ∃ k : Nat, k ≤ n ∧ i = .int .i64 k ∧ Hid ((xss.take k).all validCardL = true) ∧ Below w.heap.size w wr) (fun i _ => n - (intOf i).toNat)
  case atStart => exact ⟨0, by omega, rfl, Lib.hid rfl, Below.refl _ _⟩
  case round =>
    obtain ⟨k, hk, rfl, hall, hb⟩ := hrel
    by_cases hlt : k < n
    · obtain ⟨x, hxk⟩ := get_some (l := xss) (k := k) (by rw [hN'.out]; exact hlt)
      obtain ⟨b1, o1, a1, c1, rfl, hc1, hr1⟩ := (hx.kept hb).at hxk
      have hs1 := deckSz_at hxk
      have hxm : x.length ≤ maxLen := by unfold maxLen; omega
      have hba := below_alloc (w := wr) (.cells #[.slice a1 x.length c1] 28)
      have hrx := hr1.kept hba
      have hB := Lib.hid (bthen hb hba)
      have hxk' := Lib.hid hxk
      clear hxk hs1 hba
      cases hv : validCardL x
      · have hf := Lib.hid (pc_c (s := s) hp'.out (all_not hxk'.out hv))
        go_wp2_with (go_at_call 69; ((with_reducible refine (impl_ValidCard a1 c1 x _ hrx hxm).mono ?_); rintro e w' ⟨rfl, hbq⟩))
        go_ret
        exact ⟨ret_int (by rw [hf.out]), bthen hB.out hbq⟩
      · have hf := all_upto' hall hxk'.out hv
        go_wp2_with (go_at_call 69; ((with_reducible refine (impl_ValidCard a1 c1 x _ hrx hxm).mono ?_); rintro e w' ⟨rfl, hbq⟩))
        go_roundw
        case rel => exact ⟨k + 1, by omega, by go_num, hf, bthen hB.out hbq⟩
        case measure => simp [intOf]; omega
    · have hall1 := Lib.hid (all_take (by rw [hN'.out]; omega) hall.out)
      obtain ⟨wo, rfl⟩ : ∃ wo : World, wo = wr := ⟨_, rfl⟩
      go_wp2_with fail
      go_loopw [30] (fun i wr => ∃ k : Nat, k ≤ n ∧ i = .int .i64 k ∧ Hid ((xss.take k).all (fun x => decide (x.length = s.size)) = true) ∧ Below w.heap.size w wr) (fun i _ => n - (intOf i).toNat)
      case atStart => exact ⟨0, by omega, rfl, Lib.hid rfl, hb⟩
      case round =>
        obtain ⟨k, hk, rfl, hall, hb⟩ := hrel
        by_cases hlt : k < n
        · obtain ⟨x, hxk⟩ := get_some (l := xss) (k := k) (by rw [hN'.out]; exact hlt)
          obtain ⟨b1, o1, a1, c1, rfl, hc1, hr1⟩ := (hx.kept hb).at hxk
          have hs1 := deckSz_at hxk
          have hxm : x.length ≤ maxLen := by unfold maxLen; omega
          have hba := below_alloc (w := wr) (.cells #[.slice a1 x.length c1] 28)
          have hB := Lib.hid (bthen hb hba)
          have hxk' := Lib.hid hxk
          clear hxk hs1 hba
          by_cases hv : x.length = s.size
          · have hne : ((x.length : Int) != (s.size : Int)) = false := by simp [hv]
            have hf := all_upto' hall hxk'.out (p := fun x => decide (x.length = s.size)) (by simpa using hv)
            have hv' := Lib.hid hv
            clear hv
            go_wp2_with (go_at_call 70; ((with_reducible refine (impl_columns a1 c1 x.length _).mono ?_); rintro e w' ⟨rfl, hbq⟩))
            go_roundw
            case rel => exact ⟨k + 1, by omega, by go_num, hf, bthen hB.out hbq⟩
            case measure => simp [intOf]; omega
          · have hne : ((x.length : Int) != (s.size : Int)) = true := by simp; omega
            have hf := Lib.hid (pc_n hp'.out hall1.out (all_not hxk'.out (p := fun x => decide (x.length = s.size)) (by simpa using hv)))
            go_wp2_with (go_at_call 70; ((with_reducible refine (impl_columns a1 c1 x.length _).mono ?_); rintro e w' ⟨rfl, hbq⟩))
            go_ret
            exact ⟨ret_int (by rw [hf.out]), bthen hB.out hbq⟩
        · have hf := Lib.hid (pc_ok hp'.out hall1.out (all_take (by rw [hN'.out]; omega) hall.out))
          go_wp2_with fail
          go_ret
          exact ⟨ret_int (by rw [hf.out]), hb⟩
set_option maxHeartbeats 4000000 in
theorem impl_punched (s : ByteArray) (a : Option Addr) (c : Nat) (xs : List Int) (u : ByteArray) (w : World) (hx : RI w a xs) (hs : s.size ≤ 1048576) (hu : u.size ≤ 1048576) (hl : xs.length = s.size) :
    Calls Try.prog 43 #[.string s, .agg #[.slice a xs.length c], .string u] w fun e w' => ∃ a' c', e = .returned (.tuple #[.agg #[.slice a' (punchedL s u xs).length c'], .int .i64 (punchedC s u)]) ∧ w'.ownsRow w.heap.size 2 1 (.slice a' (punchedL s u xs).length c') (punchedL s u xs).length ((punchedL s u xs).map (Value.int .i64)) ∧ Below w.heap.size w w' := by
  have hb1 := Lib.hid (below_alloc2 w (.cells #[.slice a xs.length c] 28) (.cells #[.slice none 0 0] 28))
  have hl' := Lib.hid hl
  clear hl
  by_cases hk : u.data.toList.length = keysN s.data.toList
  · have hne : ((u.size : Int) != keysI s) = false := by rw [len_bytes] at hk; simp [keysI]; omega
    have hk' := Lib.hid hk
    have hlb := Lib.hid (len_bytes s)
    have hlu := Lib.hid (len_bytes u)
    clear hk
    go_enter Try.func43, Try.ntmps43
    go_wp2_with (go_at_call 72; ((with_reducible refine (impl_keysNeeded _ _ hs).mono ?_); rintro e w' ⟨rfl, rfl⟩))
    refine (impl_blank s.size _ hs).mono ?_
    rintro e w2 ⟨a2, c2, rfl, hown, hb⟩
    (have hc0 := keep (p := ⟨w.heap.size, 0, none⟩) (v := .slice a xs.length c) hb (by simp [go_sem, *]); have hf0 := keepf (p := ⟨w.heap.size, 0, none⟩) (v := .slice a xs.length c) hb (by simp [go_sem, *]) (by simp [go_sem, *]); have hl0 := World.block_lt_of_cell? _ _ hc0; have hc1 := keep (p := ⟨w.heap.size + 1, 0, none⟩) (v := .slice none 0 0) hb (by simp [go_sem, *]); have hf1 := keepf (p := ⟨w.heap.size + 1, 0, none⟩) (v := .slice none 0 0) hb (by simp [go_sem, *]) (by simp [go_sem, *]); have hl1 := World.block_lt_of_cell? _ _ hc1)
    have ho := Lib.hid (OV.of (own_mono (B := w.heap.size + 2) hown (by first | omega | simp)))
    have hb2 := Lib.hid (bthen hb1.out hb)
    have hl1' : w.heap.size + 1 < w2.heap.size := hl1
    clear hown hb
    have hba := below_alloc (w := w2) (.cells #[.slice a2 s.size c2] 28)
    have hbx : (w2.alloc (.cells #[.slice a2 s.size c2] 28)).cell? ⟨w2.heap.size, 0, none⟩ = some (.slice a2 s.size c2) := by simp [go_sem]
    have hby := keep hba hc0
    have hbz := keep hba hc1
    have hbf := keepf hba hc1 hf1
    have hB := Lib.hid (bthen hb2.out hba)
    have ho0 : OV (w.heap.size + 2) w2.heap.size (w2.alloc (.cells #[.slice a2 s.size c2] 28)) 2 1 a2 s.size c2 ((progUp s.data.toList u.data.toList xs s.size 0).map (Value.int .i64)) := by rw [progUp_zero]; exact ho.out.kept (below_alloc _)
    clear hba
    go_wp2_with fail
    generalize hW : (w2.alloc (.cells #[.slice a2 s.size c2] 28)) = W at *
    clear hW
    go_loopw [9, 10] (fun q i wr => ∃ j : Nat, j ≤ s.size ∧ i = .int .i64 j ∧ q = .int .i64 ((keysN (s.data.toList.take j) : Nat) : Int) ∧ Hid (okUp s.data.toList u.data.toList j = true) ∧ OV (w.heap.size + 2) w2.heap.size wr 2 1 a2 s.size c2 ((progUp s.data.toList u.data.toList xs s.size j).map (Value.int .i64)) ∧ Within (w.heap.size + 2) w2.heap.size W wr) (fun _ i _ => s.size - (intOf i).toNat)
    case atStart => exact ⟨0, by omega, rfl, by simp [keysN], Lib.hid rfl, ho0, Within.refl _ _ _⟩
    case round =>
      obtain ⟨j, hj, rfl, rfl, hok, hoj, hw⟩ := hrel
      have hbxr := hw.cell hbx (Or.inr (Nat.le_refl _))
      have hbyr := hw.cell hby (Or.inl (by dsimp only; omega))
      have hbzr := hw.cell hbz (Or.inl (by dsimp only; omega))
      have hbfr := hw.frozen hbz hbf (Or.inl (by dsimp only; omega))
      by_cases hlt : j < s.size
      · obtain ⟨g, rfl, hg1, hg2⟩ := hoj.addr (by omega)
        have hget := Lib.hid (get_bytes s j hlt)
        obtain ⟨v, hv⟩ := progUp_at s.data.toList u.data.toList xs hj hlt
        have hcg := (hoj.1.cellAt j (by omega)).trans hv
        have hfg := hoj.1.frozenAt j
        have hset := Lib.hid (progUp_set s.data.toList u.data.toList xs hlt)
        have hg3 : ¬ g = w2.heap.size := by omega
        have hg4 : ¬ w2.heap.size = g := by omega
        have hkl := Lib.hid (show (keysN (s.data.toList.take j)) ≤ s.size by have := keysN_le (s.data.toList.take j); have h2 : (s.data.toList.take j).length ≤ j := List.length_take_le _ _; omega)
        clear hv
        cases hkd : keyedB ((s[j]'hlt).toNat : Int)
        · have e109 : (((s[j]'hlt).toNat : Int) == 109) = false := by unfold keyedB at hkd; simp only [Bool.or_eq_false_iff] at hkd; exact hkd.1
          have e110 : (((s[j]'hlt).toNat : Int) == 110) = false := by unfold keyedB at hkd; simp only [Bool.or_eq_false_iff] at hkd; exact hkd.2
          have hkn := Lib.hid (keysN_no hget.out hkd)
          by_cases h100 : (s[j]'hlt).toNat = 100
          · have e100 : (((s[j]'hlt).toNat : Int) == 100) = true := by simp [h100]
            obtain ⟨x, hxj⟩ := get_some (l := xs) (k := j) (by rw [hl'.out]; exact hlt)
            obtain ⟨b1, o1, rfl, hcw⟩ := hx.at hxj
            have hlt1 := World.block_lt_of_cell? _ _ hcw
            have hcx := hw.cell (keep hB.out hcw) (Or.inl (by dsimp only at *; omega))
            have hbc := Lib.hid (at_dup (ks := u.data.toList) hget.out hxj hkd h100)
            have hj0 : (j : Int) < (xs.length : Int) := by rw [hl'.out]; omega
            have hjx : j < xs.length := by rw [hl'.out]; exact hlt
            have hn0 : ¬ w.heap.size = w2.heap.size := by omega
            clear h100 hkd hcw hxj
            go_wp2_with fail
            first | go_region_with (fail) | fail
            all_goals go_wp2_with fail
            all_goals
              go_roundw
              case rel => exact ⟨j + 1, by omega, by go_num, by rw [hkn.out], Lib.hid (okUp_succ hok.out hbc.out.1), by rw [← hset.out, hbc.out.2]; first | exact (hoj.store j _).kept (below_drewN (Below.refl _ _) 1) | exact hoj.store j _, by first | exact (hw.setCell (p := ⟨g, j, none⟩) hg1 hg2 _).trans (Within.of_below (below_drewN (Below.refl _ _) 1)) | exact hw.setCell (p := ⟨g, j, none⟩) hg1 hg2 _⟩
              case measure => simp [intOf]; omega
          · have e100 : (((s[j]'hlt).toNat : Int) == 100) = false := by simp; omega
            have hbc := Lib.hid (at_skip (ks := u.data.toList) xs hget.out hkd h100)
            have hsk := Lib.hid (progUp_skip (n := s.size) hlt hbc.out.2)
            clear h100 hkd
            go_wp2_with fail
            all_goals
              go_roundw
              case rel => exact ⟨j + 1, by omega, by go_num, by rw [hkn.out], Lib.hid (okUp_succ hok.out hbc.out.1), by rw [hsk.out]; exact hoj, hw⟩
              case measure => simp [intOf]; omega
        · have hpre := keysN_pre hget.out hkd
          have hKu : keysN (s.data.toList.take j) < u.size := by rw [← hlu.out, hk'.out]; exact hpre
          have hkn := Lib.hid (keysN_yes hget.out hkd)
          have hqk := Lib.hid (get_bytes u _ hKu)
          have hK0 := Lib.hid (rfl : keysN (s.data.toList.take j) = keysN (s.data.toList.take j))
          clear hpre hkl
          generalize hK : keysN (s.data.toList.take j) = K at hKu hkn hqk ⊢
          have hqk' := Lib.hid (show u.data.toList[keysN (s.data.toList.take j)]? = some (u[K]'hKu) by rw [hK]; exact hqk.out)
          have hKj := Lib.hid hK
          have hKs : K ≤ 1048576 := by omega
          clear hK hqk hK0
          have hor : (s[j]'hlt).toNat = 109 ∨ (s[j]'hlt).toNat = 110 := by unfold keyedB at hkd; simp only [Bool.or_eq_true, beq_iff_eq] at hkd; omega
          rcases hor with h109 | h110
          · have e100 : (((s[j]'hlt).toNat : Int) == 100) = false := by simp; omega
            have e109 : (((s[j]'hlt).toNat : Int) == 109) = true := by simp; omega
            have e110 : (((s[j]'hlt).toNat : Int) == 110) = false := by simp; omega
            cases hch : charB ((u[K]'hKu).toNat : Int)
            · have hf := Lib.hid (show punchedC s u = 7 ∧ punchedL s u xs = [] from (fun h => ⟨h, punched_bad xs h (by decide)⟩) (pchk_hit hk'.out (by rw [hlb.out]; exact hlt) hok.out (at_bad7 hget.out hqk'.out hkd hch) (by decide)))
              clear h109 hkd
              go_wp2_with (first | (go_at_call 74; ((with_reducible refine (impl_isCharacter _ _).mono ?_); rintro e w' ⟨rfl, rfl⟩)) | (go_at_call 75; ((with_reducible refine (impl_isDigit _ _).mono ?_); rintro e w' ⟨rfl, rfl⟩)))
              refine bodyPost_ret (v := .tuple #[.agg #[.slice none 0 0], .int .i64 7]) (by simp [results, Try.results43, go_sem, *]) rfl ⟨none, 0, by rw [hf.out.1, hf.out.2]; rfl, by rw [hf.out.2]; exact World.ownsRow_nil _ _ _ _, (hw.below hB.out (by omega) hB.out.size).setCell (by dsimp only; omega) _⟩
            · have hbc := Lib.hid (at_key xs hget.out hqk'.out hkd hch (by omega))
              clear h109 hkd
              go_wp2_with (first | (go_at_call 74; ((with_reducible refine (impl_isCharacter _ _).mono ?_); rintro e w' ⟨rfl, rfl⟩)) | (go_at_call 75; ((with_reducible refine (impl_isDigit _ _).mono ?_); rintro e w' ⟨rfl, rfl⟩)))
              first | go_region_with (go_at_call 76; refine (impl_codeOf _ _).mono ?_; rintro e w' ⟨rfl, rfl⟩) | fail
              all_goals go_wp2_with fail
              all_goals
                go_roundw
                case rel => exact ⟨j + 1, by omega, by go_num, by rw [hkn.out]; go_num, Lib.hid (okUp_succ hok.out hbc.out.1), by rw [← hset.out, hbc.out.2]; first | exact (hoj.store j _).kept (below_drewN (Below.refl _ _) 1) | exact hoj.store j _, by first | exact (hw.setCell (p := ⟨g, j, none⟩) hg1 hg2 _).trans (Within.of_below (below_drewN (Below.refl _ _) 1)) | exact hw.setCell (p := ⟨g, j, none⟩) hg1 hg2 _⟩
                case measure => simp [intOf]; omega
          · have e100 : (((s[j]'hlt).toNat : Int) == 100) = false := by simp; omega
            have e109 : (((s[j]'hlt).toNat : Int) == 109) = false := by simp; omega
            have e110 : (((s[j]'hlt).toNat : Int) == 110) = true := by simp; omega
            cases hch : charB ((u[K]'hKu).toNat : Int)
            · have hf := Lib.hid (show punchedC s u = 7 ∧ punchedL s u xs = [] from (fun h => ⟨h, punched_bad xs h (by decide)⟩) (pchk_hit hk'.out (by rw [hlb.out]; exact hlt) hok.out (at_bad7 hget.out hqk'.out hkd hch) (by decide)))
              clear h110 hkd
              go_wp2_with (first | (go_at_call 74; ((with_reducible refine (impl_isCharacter _ _).mono ?_); rintro e w' ⟨rfl, rfl⟩)) | (go_at_call 75; ((with_reducible refine (impl_isDigit _ _).mono ?_); rintro e w' ⟨rfl, rfl⟩)))
              refine bodyPost_ret (v := .tuple #[.agg #[.slice none 0 0], .int .i64 7]) (by simp [results, Try.results43, go_sem, *]) rfl ⟨none, 0, by rw [hf.out.1, hf.out.2]; rfl, by rw [hf.out.2]; exact World.ownsRow_nil _ _ _ _, (hw.below hB.out (by omega) hB.out.size).setCell (by dsimp only; omega) _⟩
            · cases hd : digitB ((u[K]'hKu).toNat : Int)
              · have hf := Lib.hid (show punchedC s u = 10 ∧ punchedL s u xs = [] from (fun h => ⟨h, punched_bad xs h (by decide)⟩) (pchk_hit hk'.out (by rw [hlb.out]; exact hlt) hok.out (at_bad10 hget.out hqk'.out h110 hch hd) (by decide)))
                clear h110 hkd
                go_wp2_with (first | (go_at_call 74; ((with_reducible refine (impl_isCharacter _ _).mono ?_); rintro e w' ⟨rfl, rfl⟩)) | (go_at_call 75; ((with_reducible refine (impl_isDigit _ _).mono ?_); rintro e w' ⟨rfl, rfl⟩)))
                refine bodyPost_ret (v := .tuple #[.agg #[.slice none 0 0], .int .i64 10]) (by simp [results, Try.results43, go_sem, *]) rfl ⟨none, 0, by rw [hf.out.1, hf.out.2]; rfl, by rw [hf.out.2]; exact World.ownsRow_nil _ _ _ _, (hw.below hB.out (by omega) hB.out.size).setCell (by dsimp only; omega) _⟩
              · have hbc := Lib.hid (at_key xs hget.out hqk'.out hkd hch (by simp [hd]))
                clear h110 hkd
                go_wp2_with (first | (go_at_call 74; ((with_reducible refine (impl_isCharacter _ _).mono ?_); rintro e w' ⟨rfl, rfl⟩)) | (go_at_call 75; ((with_reducible refine (impl_isDigit _ _).mono ?_); rintro e w' ⟨rfl, rfl⟩)))
                first | go_region_with (go_at_call 76; refine (impl_codeOf _ _).mono ?_; rintro e w' ⟨rfl, rfl⟩) | fail
                all_goals go_wp2_with fail
                all_goals
                  go_roundw
                  case rel => exact ⟨j + 1, by omega, by go_num, by rw [hkn.out]; go_num, Lib.hid (okUp_succ hok.out hbc.out.1), by rw [← hset.out, hbc.out.2]; first | exact (hoj.store j _).kept (below_drewN (Below.refl _ _) 1) | exact hoj.store j _, by first | exact (hw.setCell (p := ⟨g, j, none⟩) hg1 hg2 _).trans (Within.of_below (below_drewN (Below.refl _ _) 1)) | exact hw.setCell (p := ⟨g, j, none⟩) hg1 hg2 _⟩
                  case measure => simp [intOf]; omega
      · obtain rfl : j = s.size := by omega
        have hbc := Lib.hid (show punchedC s u = 0 from pchk_ok hk'.out (by rw [hlb.out]; exact hok.out))
        have hf := Lib.hid (punched_ok xs hbc.out)
        have hln := Lib.hid (progUp_length s.data.toList u.data.toList xs (Nat.le_refl s.size))
        go_wp2_with fail
        refine bodyPost_ret (v := .tuple #[.agg #[.slice a2 s.size c2], .int .i64 0]) (by simp [results, Try.results43, go_sem, *]) rfl ⟨a2, c2, by rw [hbc.out, hf.out, hln.out], ?_, (hw.below hB.out (by omega) hB.out.size).setCell (by dsimp only; omega) _⟩
        rw [hf.out, hln.out]
        exact own_mono (ownsRow_setCell_below hoj.1 (by dsimp only; omega) _) (by omega)
  · have hne : ((u.size : Int) != keysI s) = true := by rw [len_bytes] at hk; simp [keysI]; omega
    have hf := Lib.hid (show punchedC s u = 5 ∧ punchedL s u xs = [] from ⟨pchk_full hk, punched_bad xs (pchk_full hk) (by decide)⟩)
    clear hk
    go_enter Try.func43, Try.ntmps43
    go_wp2_with (go_at_call 72; ((with_reducible refine (impl_keysNeeded _ _ hs).mono ?_); rintro e w' ⟨rfl, rfl⟩))
    refine bodyPost_ret (v := .tuple #[.agg #[.slice none 0 0], .int .i64 5]) (by simp [results, Try.results43, go_sem, *]) rfl ⟨none, 0, by rw [hf.out.1, hf.out.2]; rfl, by rw [hf.out.2]; exact World.ownsRow_nil _ _ _ _, hb1.out⟩
end Go.Proofs.Ytoeohebobmkobaa
