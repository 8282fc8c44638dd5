/- The walks of the reference's functions that punch cards by a program card and keys: what each returns, and that memory has at most new blocks. -/
import Derived.Test.YtoeohebobmkobaaKeyedL
import Derived.Test.YtoeohebobmkobaaDeck
import Derived.Test.YtoeohebobmkobaaLay
import Derived.Test.YtoeohebobmkobaaApp
import Derived.Deep.RegionWith
import Derived.Deep.RegionHeld3
namespace Go.Proofs.Ytoeohebobmkobaa
open Go.RowKit
set_option maxRecDepth 100000
set_option linter.unusedVariables false
set_option linter.unusedSimpArgs false
set_option linter.unnecessarySimpa false

theorem at_zero {l ks : List UInt8} {i : Nat} {c q : UInt8} (xs : List Int) (h : l[i]? = some c) (hk : ks[keysN (l.take i)]? = some q) (hc : keyedB c.toNat = true) (hz : badAt l ks i = 0) : charB q.toNat = true ∧ colAt l ks xs i = code0 q.toNat := by
  refine ⟨?_, by unfold colAt keyAt; rw [getD_of h, getD_of hk, hc]; rfl⟩
  cases hq : charB q.toNat
  · rw [at_bad7 h hk hc hq] at hz; exact absurd hz (by decide)
  · rfl
theorem spec_l05Code (B : Nat) (s : ByteArray) (a : Option Addr) (c : Nat) (xs : List Int) (w : World) (hp : w.cell? ⟨B, 0, none⟩ = some (.slice a xs.length c)) (hx : RI w a xs) (hs : s.size ≤ 1048576) (hn : xs.length ≤ maxLen) :
    Calls Try.prog 49 #[.string s, .pointer (some ⟨B, 0, none⟩)] w fun e w' => e = .returned (.int .i64 (progI s xs)) ∧ w = w' := by
  have hsm : s.size ≤ maxLen := small hs
  have hok := Lib.hid (spec_l02Ok B a c xs w hp hx hn)
  cases h1 : validProgL s.data.toList
  · have hf := Lib.hid (progI_p xs h1)
    go_enter Try.func49, Try.ntmps49
    go_wp2_with (first | (go_at_call 64; ((with_reducible refine (spec_l05Ok _ hsm _).mono ?_); rintro e w' ⟨rfl, rfl⟩)))
    go_ret
    exact ⟨ret_int (by rw [hf.out]), rfl⟩
  · cases h2 : validCardL xs
    · have hf := Lib.hid (progI_c h1 h2)
      go_enter Try.func49, Try.ntmps49
      go_wp2_with (first | (go_at_call 64; ((with_reducible refine (spec_l05Ok _ hsm _).mono ?_); rintro e w' ⟨rfl, rfl⟩)) | (go_at_call 65; ((with_reducible refine hok.out.mono ?_); rintro e w' ⟨rfl, rfl⟩)))
      go_ret
      exact ⟨ret_int (by rw [hf.out]), rfl⟩
    · by_cases h3 : xs.length = s.size
      · have hne : ((xs.length : Int) != (s.size : Int)) = false := by simp [h3]
        have hf := Lib.hid (progI_ok h1 h2 h3)
        clear h3
        go_enter Try.func49, Try.ntmps49
        go_wp2_with (first | (go_at_call 64; ((with_reducible refine (spec_l05Ok _ hsm _).mono ?_); rintro e w' ⟨rfl, rfl⟩)) | (go_at_call 65; ((with_reducible refine hok.out.mono ?_); rintro e w' ⟨rfl, rfl⟩)))
        go_ret
        exact ⟨ret_int (by rw [hf.out]), rfl⟩
      · have hne : ((xs.length : Int) != (s.size : Int)) = true := by simp; omega
        have hf := Lib.hid (progI_n h1 h2 h3)
        clear h3
        go_enter Try.func49, Try.ntmps49
        go_wp2_with (first | (go_at_call 64; ((with_reducible refine (spec_l05Ok _ hsm _).mono ?_); rintro e w' ⟨rfl, rfl⟩)) | (go_at_call 65; ((with_reducible refine hok.out.mono ?_); rintro e w' ⟨rfl, rfl⟩)))
        go_ret
        exact ⟨ret_int (by rw [hf.out]), rfl⟩
set_option maxHeartbeats 1000000 in
theorem spec_l05Check (s u : ByteArray) (w : World) (hs : s.size ≤ 1048576) (hu : u.size ≤ 1048576) :
    Calls Try.prog 46 #[.string s, .string u] w fun e w' => e = .returned (.int .i64 (punchedC s u)) ∧ w = w' := by
  have hlb := Lib.hid (len_bytes s)
  have hlu := Lib.hid (len_bytes u)
  by_cases hk : u.data.toList.length = keysN s.data.toList
  · have hne : ((u.size : Int) != keysI s) = false := by rw [len_bytes] at hk; simp [keysI]; omega
    have hk' := Lib.hid hk
    clear hk
    go_enter Try.func46, Try.ntmps46
    go_wp2_with (go_at_call 78; ((with_reducible refine (spec_l05Keys _ _ hs).mono ?_); rintro e w' ⟨rfl, rfl⟩))
    go_loop [5, 6] (fun q i => ∃ j : Nat, j ≤ s.size ∧ i = .int .i64 j ∧ q = .int .i64 ((keysN (s.data.toList.take j) : Nat) : Int) ∧ Hid (okUp s.data.toList u.data.toList j = true)) (fun _ i => s.size - (intOf i).toNat)
    case atStart => exact ⟨0, by omega, rfl, by simp [keysN], Lib.hid rfl⟩
    case round =>
      obtain ⟨j, hj, rfl, rfl, hok⟩ := hrel
      by_cases hlt : j < s.size
      · have hget := Lib.hid (get_bytes s j hlt)
        cases hkd : keyedB ((s[j]'hlt).toNat : Int)
        · have hkn := Lib.hid (keysN_no hget.out hkd)
          have hbc := Lib.hid (show badAt s.data.toList u.data.toList j = 0 by
            by_cases h100 : (s[j]'hlt).toNat = 100
            · exact (at_dup (xs := List.replicate (j + 1) 0) (x := 0) hget.out (by simp) hkd h100).1
            · exact (at_skip [] hget.out hkd h100).1)
          go_wp2_with (go_at_call 38; ((with_reducible refine (spec_l05Keyed _ _).mono ?_); rintro e w' ⟨rfl, rfl⟩))
          go_round
          case rel => exact ⟨j + 1, by omega, by go_num, by rw [hkn.out], Lib.hid (okUp_succ hok.out hbc.out)⟩
          case measure => simp [intOf]; omega
        · have hpre := keysN_pre hget.out hkd
          have hKu : keysN (s.data.toList.take j) < u.size := by rw [← hlu.out, hk'.out]; exact hpre
          have hkn := Lib.hid (keysN_yes hget.out hkd)
          have hqk := Lib.hid (get_bytes u _ hKu)
          clear hpre
          generalize hK : keysN (s.data.toList.take j) = K at hKu hkn hqk ⊢
          have hqk' := Lib.hid (show u.data.toList[keysN (s.data.toList.take j)]? = some (u[K]'hKu) by rw [hK]; exact hqk.out)
          have hKj := Lib.hid hK
          have hKs : K ≤ 1048576 := by omega
          clear hK hqk
          cases hch : charB ((u[K]'hKu).toNat : Int)
          · have hneg : codeI ((u[K]'hKu).toNat : Int) < 0 := by unfold charB at hch; simpa using hch
            have hf := Lib.hid (show punchedC s u = 7 from pchk_hit hk'.out (by rw [hlb.out]; exact hlt) hok.out (at_bad7 hget.out hqk'.out hkd hch) (by decide))
            clear hch
            go_wp2_with (first | (go_at_call 38; ((with_reducible refine (spec_l05Keyed _ _).mono ?_); rintro e w' ⟨rfl, rfl⟩)) | (go_at_call 67; ((with_reducible refine (spec_l03Code _ _).mono ?_); rintro e w' ⟨rfl, rfl⟩)))
            go_ret
            exact ⟨ret_int (by rw [hf.out]), rfl⟩
          · have hneg : ¬ codeI ((u[K]'hKu).toNat : Int) < 0 := by unfold charB at hch; simp only [decide_eq_true_eq] at hch; omega
            by_cases h110 : (s[j]'hlt).toNat = 110
            · have e110 : (((s[j]'hlt).toNat : Int) == 110) = true := by simp; omega
              cases hd : digitB ((u[K]'hKu).toNat : Int)
              · have hf := Lib.hid (show punchedC s u = 10 from pchk_hit hk'.out (by rw [hlb.out]; exact hlt) hok.out (at_bad10 hget.out hqk'.out h110 hch hd) (by decide))
                clear hch h110
                go_wp2_with (first | (go_at_call 38; ((with_reducible refine (spec_l05Keyed _ _).mono ?_); rintro e w' ⟨rfl, rfl⟩)) | (go_at_call 67; ((with_reducible refine (spec_l03Code _ _).mono ?_); rintro e w' ⟨rfl, rfl⟩)) | (go_at_call 39; ((with_reducible refine (spec_l01Digit _ _).mono ?_); rintro e w' ⟨rfl, rfl⟩)))
                go_ret
                exact ⟨ret_int (by rw [hf.out]), rfl⟩
              · have hbc := Lib.hid (at_key [] hget.out hqk'.out hkd hch (by simp [hd])).1
                clear hch h110
                go_wp2_with (first | (go_at_call 38; ((with_reducible refine (spec_l05Keyed _ _).mono ?_); rintro e w' ⟨rfl, rfl⟩)) | (go_at_call 67; ((with_reducible refine (spec_l03Code _ _).mono ?_); rintro e w' ⟨rfl, rfl⟩)) | (go_at_call 39; ((with_reducible refine (spec_l01Digit _ _).mono ?_); rintro e w' ⟨rfl, rfl⟩)))
                go_round
                case rel => exact ⟨j + 1, by omega, by go_num, by rw [hkn.out]; go_num, Lib.hid (okUp_succ hok.out hbc.out)⟩
                case measure => simp [intOf]; omega
            · have e110 : (((s[j]'hlt).toNat : Int) == 110) = false := by simp; omega
              have hbc := Lib.hid (at_key [] hget.out hqk'.out hkd hch (by omega)).1
              clear hch h110
              go_wp2_with (first | (go_at_call 38; ((with_reducible refine (spec_l05Keyed _ _).mono ?_); rintro e w' ⟨rfl, rfl⟩)) | (go_at_call 67; ((with_reducible refine (spec_l03Code _ _).mono ?_); rintro e w' ⟨rfl, rfl⟩)) | (go_at_call 39; ((with_reducible refine (spec_l01Digit _ _).mono ?_); rintro e w' ⟨rfl, rfl⟩)))
              go_round
              case rel => exact ⟨j + 1, by omega, by go_num, by rw [hkn.out]; go_num, Lib.hid (okUp_succ hok.out hbc.out)⟩
              case measure => simp [intOf]; omega
      · obtain rfl : j = s.size := by omega
        have hf := Lib.hid (show punchedC s u = 0 from pchk_ok hk'.out (by rw [hlb.out]; exact hok.out))
        go_wp2_with fail
        go_ret
        exact ⟨ret_int (by rw [hf.out]), rfl⟩
  · have hne : ((u.size : Int) != keysI s) = true := by rw [len_bytes] at hk; simp [keysI]; omega
    have hf := Lib.hid (show punchedC s u = 5 from pchk_full hk)
    clear hk
    go_enter Try.func46, Try.ntmps46
    go_wp2_with (go_at_call 78; ((with_reducible refine (spec_l05Keys _ _ hs).mono ?_); rintro e w' ⟨rfl, rfl⟩))
    go_ret
    exact ⟨ret_int (by rw [hf.out]), rfl⟩
set_option maxHeartbeats 4000000 in
theorem spec_l05Punch (B : Nat) (s : ByteArray) (a : Option Addr) (c : Nat) (xs : List Int) (u : ByteArray) (w : World) (hp : w.cell? ⟨B, 0, none⟩ = some (.slice a xs.length c)) (hx : RI w a xs) (hs : s.size ≤ 1048576) (hu : u.size ≤ 1048576) (hl : xs.length = s.size) (h0 : punchedC s u = 0) :
    Calls Try.prog 50 #[.string s, .pointer (some ⟨B, 0, none⟩), .string u] w fun e w' => ∃ a' c', e = .returned (.agg #[.slice a' (punchedL s u xs).length c']) ∧ w'.ownsRow w.heap.size 2 1 (.slice a' (punchedL s u xs).length c') (punchedL s u xs).length ((punchedL s u xs).map (Value.int .i64)) ∧ Below w.heap.size w w' := by
  have hb1 := Lib.hid (below_alloc (w := w) (.cells #[.slice none 0 0] 28))
  have hz := Lib.hid (pchk_zero h0)
  have hf := Lib.hid (punched_ok xs h0)
  have hln := Lib.hid (progUp_length s.data.toList u.data.toList xs (Nat.le_refl s.size))
  have hlb := Lib.hid (len_bytes s)
  have hlu := Lib.hid (len_bytes u)
  have hl' := Lib.hid hl
  have hpl : B < w.heap.size := World.block_lt_of_cell? _ _ hp
  have hp' := Lib.hid hp
  obtain ⟨i0, hi0, hz0, hz1, hz2⟩ := info_parts Try.info_int64
  have hm := Lib.hid (show s.size ≤ maxLen by simp [maxLen]; omega)
  clear hl h0 hp
  go_enter Try.func50, Try.ntmps50
  go_wp2_with (at_make; refine wpList_make_full _ rfl _ _ 22 rfl (w.heap.size + 1) 2 i0 (.int .i64 0) 1 Try.underlying22 hi0 hz0 hz1 _ _ _ _ s.size rfl rfl rfl rfl (by rw [hz2]; omega) hm.out (by simp) ?_; intro w2 hown hgrow; have hbg := below_grown hgrow; (have hc0 := keep (p := ⟨w.heap.size, 0, none⟩) (v := .slice none 0 0) hbg (by simp [go_sem, *]); have hf0 := keepf (p := ⟨w.heap.size, 0, none⟩) (v := .slice none 0 0) hbg (by simp [go_sem, *]) (by simp [go_sem, *]); have hl0 := World.block_lt_of_cell? _ _ hc0); have hownh := Lib.hid hown; have hbgh := Lib.hid hbg; clear hown hgrow hbg)
  have hl0' : w.heap.size < w2.heap.size := hl0
  have hgl := Lib.hid (own_at hownh.out rfl).2
  have hgl' : w.heap.size + 1 < w2.heap.size := by have := hgl.out; simpa using this
  have hba := below_alloc (w := w2) (.cells #[.slice (some ⟨w.heap.size + 1, 0, none⟩) s.size s.size] 28)
  have hbx : (w2.alloc (.cells #[.slice (some ⟨w.heap.size + 1, 0, none⟩) s.size s.size] 28)).cell? ⟨w2.heap.size, 0, none⟩ = some (.slice (some ⟨w.heap.size + 1, 0, none⟩) s.size s.size) := by simp [go_sem]
  have hbz := keep hba hc0
  have hbf := keepf hba hc0 hf0
  have hB := Lib.hid (bthen (bthen hb1.out hbgh.out) hba)
  have hby := keep hB.out hp'.out
  have ho0 : OV (w.heap.size + 1) w2.heap.size (w2.alloc (.cells #[.slice (some ⟨w.heap.size + 1, 0, none⟩) s.size s.size] 28)) 2 1 (some ⟨w.heap.size + 1, 0, none⟩) s.size s.size ((progUp s.data.toList u.data.toList xs s.size 0).map (Value.int .i64)) := by
    rw [progUp_zero, zerosL_vals]
    refine (OV.of ?_).kept (below_alloc _)
    simpa [Value.cells, toList_madeCells_one] using hownh.out
  clear hba
  go_wp2_with fail
  generalize hW : (w2.alloc (.cells #[.slice (some ⟨w.heap.size + 1, 0, none⟩) s.size s.size] 28)) = W at *
  clear hW
  go_loopw [8, 9] (fun q i wr => ∃ j : Nat, j ≤ s.size ∧ i = .int .i64 j ∧ q = .int .i64 ((keysN (s.data.toList.take j) : Nat) : Int) ∧ OV (w.heap.size + 1) w2.heap.size wr 2 1 (some ⟨w.heap.size + 1, 0, none⟩) s.size s.size ((progUp s.data.toList u.data.toList xs s.size j).map (Value.int .i64)) ∧ Within (w.heap.size + 1) w2.heap.size W wr) (fun _ i _ => s.size - (intOf i).toNat)
  case atStart => exact ⟨0, by omega, rfl, by simp [keysN], ho0, Within.refl _ _ _⟩
  case round =>
    obtain ⟨j, hj, rfl, rfl, hoj, hw⟩ := hrel
    have hbxr := hw.cell hbx (Or.inr (Nat.le_refl _))
    have hbyr := hw.cell hby (Or.inl (by dsimp only; omega))
    have hbzr := hw.cell hbz (Or.inl (by dsimp only; omega))
    have hbfr := hw.frozen hbz hbf (Or.inl (by dsimp only; omega))
    by_cases hlt : j < s.size
    · have hget := Lib.hid (get_bytes s j hlt)
      have hz' := Lib.hid (hz.out.2 j (by rw [hlb.out]; exact hlt))
      obtain ⟨v, hv⟩ := progUp_at s.data.toList u.data.toList xs hj hlt
      have hcg := (hoj.1.cellAt j (by omega)).trans hv
      have hfg := hoj.1.frozenAt j
      have hset := Lib.hid (progUp_set s.data.toList u.data.toList xs hlt)
      have hg3 : ¬ w.heap.size + 1 = w2.heap.size := by omega
      have hg4 : ¬ w2.heap.size = w.heap.size + 1 := by omega
      have hkl := Lib.hid (show (keysN (s.data.toList.take j)) ≤ s.size by have := keysN_le (s.data.toList.take j); have h2 : (s.data.toList.take j).length ≤ j := List.length_take_le _ _; omega)
      clear hv
      cases hkd : keyedB ((s[j]'hlt).toNat : Int)
      · have hkn := Lib.hid (keysN_no hget.out hkd)
        by_cases h100 : (s[j]'hlt).toNat = 100
        · have e100 : (((s[j]'hlt).toNat : Int) == 100) = true := by simp [h100]
          obtain ⟨x, hxj⟩ := get_some (l := xs) (k := j) (by rw [hl'.out]; exact hlt)
          obtain ⟨b1, o1, rfl, hcw⟩ := hx.at hxj
          have hlt1 := World.block_lt_of_cell? _ _ hcw
          have hcx := hw.cell (keep hB.out hcw) (Or.inl (by dsimp only at *; omega))
          have hcol := Lib.hid (at_dup (ks := u.data.toList) hget.out hxj hkd h100).2
          have hj0 : (j : Int) < (xs.length : Int) := by rw [hl'.out]; omega
          have hjx : j < xs.length := by rw [hl'.out]; exact hlt
          clear h100 hcw hxj
          go_wp2_with (go_at_call 38; ((with_reducible refine (spec_l05Keyed _ _).mono ?_); rintro e w' ⟨rfl, rfl⟩))
          first | go_region_with (fail) | fail
          all_goals go_wp2_with fail
          all_goals
            go_roundw
            case rel => exact ⟨j + 1, by omega, by go_num, by rw [hkn.out], by rw [← hset.out, hcol.out]; first | exact (hoj.store j _).kept (below_drewN (Below.refl _ _) 1) | exact hoj.store j _, by first | exact (hw.setCell (p := ⟨w.heap.size + 1, j, none⟩) (Nat.le_refl _) hgl' _).trans (Within.of_below (below_drewN (Below.refl _ _) 1)) | exact hw.setCell (p := ⟨w.heap.size + 1, j, none⟩) (Nat.le_refl _) hgl' _⟩
            case measure => simp [intOf]; omega
        · have e100 : (((s[j]'hlt).toNat : Int) == 100) = false := by simp; omega
          have hcol := Lib.hid (at_skip (ks := u.data.toList) xs hget.out hkd h100).2
          have hsk := Lib.hid (progUp_skip (n := s.size) hlt hcol.out)
          clear h100
          go_wp2_with (go_at_call 38; ((with_reducible refine (spec_l05Keyed _ _).mono ?_); rintro e w' ⟨rfl, rfl⟩))
          all_goals
            go_roundw
            case rel => exact ⟨j + 1, by omega, by go_num, by rw [hkn.out], by rw [hsk.out]; exact hoj, hw⟩
            case measure => simp [intOf]; omega
      · have hpre := keysN_pre hget.out hkd
        have hKu : keysN (s.data.toList.take j) < u.size := by rw [← hlu.out, hz.out.1]; exact hpre
        have hkn := Lib.hid (keysN_yes hget.out hkd)
        have hqk := Lib.hid (get_bytes u _ hKu)
        clear hpre hkl
        generalize hK : keysN (s.data.toList.take j) = K at hKu hkn hqk ⊢
        have hqk' := Lib.hid (show u.data.toList[keysN (s.data.toList.take j)]? = some (u[K]'hKu) by rw [hK]; exact hqk.out)
        have hKs : K ≤ 1048576 := by omega
        have hcc := at_zero xs hget.out hqk'.out hkd hz'.out
        have hcol := Lib.hid (hcc.2.trans (code0_yes hcc.1))
        have hcs := Lib.hid hcc
        clear hK hqk hcc
        go_wp2_with (go_at_call 38; ((with_reducible refine (spec_l05Keyed _ _).mono ?_); rintro e w' ⟨rfl, rfl⟩))
        first | go_region_with (go_at_call 67; refine (spec_l03Code _ _).mono ?_; rintro e w' ⟨rfl, rfl⟩) | fail
        all_goals go_wp2_with fail
        all_goals
          go_roundw
          case rel => exact ⟨j + 1, by omega, by go_num, by rw [hkn.out]; go_num, by rw [← hset.out, hcol.out]; first | exact (hoj.store j _).kept (below_drewN (Below.refl _ _) 1) | exact hoj.store j _, by first | exact (hw.setCell (p := ⟨w.heap.size + 1, j, none⟩) (Nat.le_refl _) hgl' _).trans (Within.of_below (below_drewN (Below.refl _ _) 1)) | exact hw.setCell (p := ⟨w.heap.size + 1, j, none⟩) (Nat.le_refl _) hgl' _⟩
          case measure => simp [intOf]; omega
    · obtain rfl : j = s.size := by omega
      go_wp2_with fail
      refine bodyPost_ret (v := .agg #[.slice (some ⟨w.heap.size + 1, 0, none⟩) s.size s.size]) (by simp [results, Try.results50, go_sem, *]) rfl ⟨some ⟨w.heap.size + 1, 0, none⟩, s.size, by rw [hf.out, hln.out], ?_, (hw.below hB.out (by omega) hB.out.size).setCell (by dsimp only; omega) _⟩
      rw [hf.out, hln.out]
      exact own_mono (ownsRow_setCell_below hoj.1 (by dsimp only; omega) _) (by omega)
end Go.Proofs.Ytoeohebobmkobaa
