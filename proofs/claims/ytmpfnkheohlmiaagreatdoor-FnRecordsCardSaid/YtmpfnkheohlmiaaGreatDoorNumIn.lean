/- The walks of the functions that read numbers off cards: what each returns, and that memory has at most new blocks. -/
import Derived.Test.YtmpfnkheohlmiaaGreatDoorNum
import Derived.Test.YtmpfnkheohlmiaaGreatDoorQE
import Derived.Deep.RegionWith
import Derived.Outline
namespace Go.Proofs.YtmpfnkheohlmiaaGreatDoor
open Go.RowKit
set_option maxRecDepth 100000
set_option linter.unusedVariables false
set_option linter.unusedSimpArgs false
set_option linter.unnecessarySimpa false

theorem pow_12 {k : Nat} (h : k ≤ 11) : (10 : Int) ^ k ≤ 100000000000 := by
  have : (10 : Nat) ^ k ≤ 10 ^ 11 := Nat.pow_le_pow_right (by omega) h
  have e : ((10 : Nat) ^ k : Int) = (10 : Int) ^ k := by simp
  rw [← e]; exact Int.ofNat_le.2 this
/-- one column more, as the walk meets it -/
theorem num_next {xs : List Int} {k : Nat} {x : Int} {b : Bool} {v : Int} (hx : xs[k]? = some x) (h : numUp xs k = some (b, v)) (hk : k ≤ 11) :
    (0 ≤ v ∧ v ≤ 100000000000) ∧ ((x == 0 && !b) = true → numUp xs (k + 1) = some (b, v)) ∧ ((x == 0 && !b) = false → digI x < 0 → numUp xs (k + 1) = none) ∧ ((x == 0 && !b) = false → ¬ digI x < 0 → numUp xs (k + 1) = some (true, 10 * v + digI x)) := by
  have hl := (List.getElem?_eq_some_iff.1 hx).1
  have hbd := numUp_bd k (by omega) h
  have hp := pow_12 hk
  refine ⟨by omega, fun hc => ?_, fun hc hd => ?_, fun hc hd => ?_⟩
  · rw [numUp_succ hx, h, step_skip hc]
  · rw [numUp_succ hx, h, step_none hc hd]
  · rw [numUp_succ hx, h, step_dig hc hd]
theorem impl_bitOf11 (w : World) : Calls Tryz.prog 113 #[.int .i64 11] w fun e w' => e = .returned (.int .i64 2) ∧ w = w' := by
  have h := impl_bitOf 11 w; rwa [bitI_11] at h
theorem impl_numberIn_1 (x : Int) (w : World) : Calls Tryz.prog 125 #[.int .i64 x] w fun e w' => e = .returned (.bool (x != 0)) ∧ w = w' := by
  go_enter Tryz.func125, Tryz.ntmps125
  go_wp2_with fail
  go_ret
  exact ⟨rfl, rfl⟩
set_option maxHeartbeats 2000000 in
theorem impl_numberIn (a : Option Addr) (c : Nat) (xs : List Int) (f t : Int) (w : World) (hx : RI w a xs) (hn : xs.length ≤ 1048576) (hcap : xs.length ≤ c) (hq : fieldB f t xs.length = true) (h12 : t - f ≤ 12) (hms : ∀ m ∈ xs, 0 ≤ m ∧ m ≤ 4095) :
    Calls Tryz.prog 92 #[.agg #[.slice a xs.length c], .agg #[.int .i64 f, .int .i64 t]] w fun e w' => e = .returned (.tuple #[.int .i64 (numRes (partL xs f t)).1, .bool (numRes (partL xs f t)).2]) ∧ Below w.heap.size w w' := by
  have hb2 := Lib.hid (below_alloc2 w (.cells #[.slice a xs.length c] 32) (.cells #[.int .i64 f, .int .i64 t] 61))
  have eg := Go.Proofs.enters_of Tryz.func125 (by kernel_rfl) rfl
  obtain ⟨h1, h2, h3⟩ := fieldB_yes hq
  have hlen := partL_length hq
  obtain ⟨x, hx0⟩ := get_some (l := xs) (k := 0) (by omega)
  obtain ⟨b1, o1, rfl, hc1⟩ := hx.at hx0
  obtain ⟨f, rfl⟩ := Int.eq_ofNat_of_zero_le h1
  obtain ⟨t, rfl⟩ := Int.eq_ofNat_of_zero_le (show 0 ≤ t by omega)
  have h2' : f ≤ t := by omega
  have h3' : t ≤ xs.length := by omega
  have h4' : t ≤ c := by omega
  clear hx0 hc1
  have hl : (partL xs (f : Int) (t : Int)).length = t - f := by rw [hlen]; omega
  have hmy : ∀ m ∈ partL xs (f : Int) (t : Int), 0 ≤ m ∧ m ≤ 4095 := fun m hm => hms m (List.mem_of_mem_drop (List.mem_of_mem_take hm))
  have hcop := impl_copyInts (some ⟨b1, o1 + f, Option.none⟩) (c - f) (partL xs f t) _ (ri_sub (hx.kept hb2.out) f ((t : Int) - f).toNat) (partL_small _ _ hn)
  generalize hP : partL xs (f : Int) (t : Int) = ys at *
  obtain ⟨k, hk⟩ : ∃ k, ys.length = k + 1 := ⟨ys.length - 1, by omega⟩
  have hk11 : k ≤ 11 := by omega
  obtain ⟨m, hm⟩ := get_some (l := ys) (k := k) (by omega)
  obtain ⟨hm0, hm1⟩ := hmy m (List.mem_of_getElem? hm)
  have htf : t - f = k + 1 := by omega
  rw [hk] at hcop
  have hcop' := Lib.hid hcop
  have hkk := Lib.hid hk
  have hmm := Lib.hid hm
  have hblank := Lib.hid (fun (h : ys.all (fun m => m == 0) = true) => numRes_blank hk h)
  have hfull := Lib.hid (fun (h : ys.all (fun m => m == 0) = false) => numRes_cleared hk hm hm0 hm1 h)
  clear hcop hk hm hmy hlen hl hP hms
  go_enter Tryz.func92, Tryz.ntmps92
  go_wp2_with fail
  clear htf
  refine hcop'.out.mono ?_
  rintro e w3 ⟨a3, c3, rfl, hown, hb3⟩
  have hbw := Lib.hid (bthen hb2.out hb3)
  obtain ⟨g, rfl, hg1, hg2⟩ := (OV.of hown).addr (by omega)
  have hany := Lib.hid (show (ys.any fun m => m != 0) = !(ys.all fun m => m == 0) by rw [List.not_all_eq_any_not]; rfl)
  have hc := slices_ContainsFunc_ints 125 #[] (fun m => m != 0) (some ⟨g, 0, none⟩) c3 ys w3 (own_RI hown) (by rw [hkk.out]; unfold maxLen; omega) eg (fun x W hb => (impl_numberIn_1 x W).mono fun _ _ h => ⟨h.1, by rw [← h.2]; exact Below.refl _ _⟩)
  rw [hkk.out, hany.out] at hc
  cases hbl : ys.all (fun m => m == 0)
  · rw [hbl] at hc
    have hc' := Lib.hid hc
    have hres := Lib.hid (hfull.out hbl)
    have hown' := Lib.hid (OV.of hown)
    clear hc hown hbl hb3
    go_wp2_with (go_at_call 90; ((with_reducible refine hc'.out.mono ?_); rintro e w4 ⟨rfl, hb4⟩))
    have ho4 := hown'.out.kept hb4
    have hcg := (ho4.1.cellAt k (by omega)).trans (map_at hmm.out)
    have hfg := ho4.1.frozenAt k
    have hg0 : w.heap.size ≤ g := by simp only [World.size_alloc] at hg1; omega
    have ho4' := Lib.hid ho4
    have hb4' := Lib.hid (bthen hbw.out hb4)
    clear ho4 hb4
    cases hneg : negB m
    · have hneg' : (bits BinOp.and IntKind.i64 m 2 != 0) = false := hneg
      first | go_quiet ((go_at_call 113; exact Calls.quiet_of_same ((impl_bitOf11 _).mono fun _ _ h => ⟨h.1, h.2.symm⟩))) | fail
      go_wp2_with fail
      first | go_region_with (go_at_call 113; refine (impl_bitOf11 _).mono ?_; rintro e w' ⟨rfl, rfl⟩) | fail
      all_goals
        have ho5 := (ho4'.out.kept (below_drewN (Below.refl _ _) (nq + 1))).store k (.int .i64 (clrI m))
        rw [← List.map_set] at ho5
        have hB5 := Lib.hid ((below_drewN hb4'.out (nq + 1)).setCell (p := ⟨g, k, none⟩) hg0 (.int .i64 (clrI m)))
        have hresn := Lib.hid (fun (h : numUp (ys.set k (clrI m)) (k + 1) = none) => (show numRes ys = (0, false) by rw [hres.out, h]))
        have hress := Lib.hid (fun (b : Bool) (n : Int) (h : numUp (ys.set k (clrI m)) (k + 1) = some (b, n)) => (show numRes ys = if !b || clrI m == 0 || (negB m && n == 0) then (0, false) else ((if negB m then -n else n), true) by rw [hres.out, h]))
        have hclr := Lib.hid (show bits BinOp.andNot IntKind.i64 m 2 = clrI m from rfl)
        go_wp2_with fail
        rw [hclr.out]
        generalize hW5 : ((w4.drewN (nq + 1)).setCell ⟨g, k, none⟩ (.int .i64 (clrI m))) = W5 at *
        have hzl : (ys.set k (clrI m)).length = k + 1 := by rw [List.length_set, hkk.out]
        have hzk : (ys.set k (clrI m))[k]? = some (clrI m) := by rw [List.getElem?_set]; have := hkk.out; simp; omega
        have hck := (ho5.1.cellAt k (by omega)).trans (map_at hzk)
        generalize hZ : ys.set k (clrI m) = zs at *
        have hzl' := Lib.hid hzl
        clear hZ hW5 hzl hzk
        go_loop [9, 10, 44] (fun n b i => ∃ (j : Nat) (bb : Bool) (v : Int), j ≤ k + 1 ∧ i = .int .i64 j ∧ n = .int .i64 v ∧ b = .bool bb ∧ Hid (numUp zs j = some (bb, v)) ∧ 0 ≤ v ∧ v ≤ 9000000000000) (fun _ _ i => k + 1 - (intOf i).toNat)
        case atStart => exact ⟨0, false, 0, by omega, rfl, rfl, rfl, Lib.hid (numUp_zero zs), by omega, by omega⟩
        case round =>
          obtain ⟨j, bb, v, hj, rfl, rfl, rfl, hup, hv0, hv1⟩ := hrel
          by_cases hlt : j < k + 1
          · obtain ⟨z, hz⟩ := get_some (l := zs) (k := j) (by rw [hzl'.out]; exact hlt)
            have hcz := (ho5.1.cellAt j (by omega)).trans (map_at hz)
            obtain ⟨⟨hb0, hb1⟩, n1, n2, n3⟩ := num_next hz hup.out (by omega)
            have n1' := Lib.hid n1
            have n2' := Lib.hid n2
            have n3' := Lib.hid n3
            have hd := digI_bd z
            have hlt' : (j : Int) < (k : Int) + 1 := by omega
            clear n1 n2 n3 hz
            cases hz0 : (z == 0)
            · by_cases hdn : digI z < 0
              · have hnone := Lib.hid (hresn.out (numUp_none (n2'.out (by rw [hz0]; rfl) hdn) (by omega)))
                go_wp2_with (go_at_call 126; ((with_reducible refine (impl_digitOf _ _).mono ?_); rintro e w' ⟨rfl, rfl⟩))
                go_ret2
                exact ⟨by rw [hnone.out]; rfl, hB5.out⟩
              · have hnx := Lib.hid (n3'.out (by rw [hz0]; rfl) hdn)
                go_wp2_with (go_at_call 126; ((with_reducible refine (impl_digitOf _ _).mono ?_); rintro e w' ⟨rfl, rfl⟩))
                go_round
                case rel => exact ⟨j + 1, true, _, by omega, by go_num, rfl, rfl, hnx, by omega, by omega⟩
                case measure => simp [intOf]; omega
            · have hz1 : z = 0 := by simpa using hz0
              cases bb
              · have hnx := Lib.hid (n1'.out (by rw [hz0]; rfl))
                go_wp2_with (go_at_call 126; ((with_reducible refine (impl_digitOf _ _).mono ?_); rintro e w' ⟨rfl, rfl⟩))
                go_round
                case rel => exact ⟨j + 1, false, v, by omega, by go_num, rfl, rfl, hnx, by omega, by omega⟩
                case measure => simp [intOf]; omega
              · have hdn : digI z < 0 := by rw [hz1, digI_zero]; omega
                have hnone := Lib.hid (hresn.out (numUp_none (n2'.out (by rw [hz0]; rfl) hdn) (by omega)))
                clear hz1
                go_wp2_with (go_at_call 126; ((with_reducible refine (impl_digitOf _ _).mono ?_); rintro e w' ⟨rfl, rfl⟩))
                go_ret2
                exact ⟨by rw [hnone.out]; rfl, hB5.out⟩
          · obtain rfl : j = k + 1 := by omega
            have hge : ¬ (((k + 1 : Nat) : Int)) < (k : Int) + 1 := by omega
            have hresw := Lib.hid (hress.out bb v hup.out)
            cases bb
            · have hfin := Lib.hid (show numRes ys = (0, false) by rw [hresw.out]; rfl)
              go_wp2_with fail
              go_ret2
              exact ⟨by rw [hfin.out]; rfl, hB5.out⟩
            cases hlz : (clrI m == 0)
            · skip
              have hfin := Lib.hid (show numRes ys = (v, true) by rw [hresw.out]; simp [hlz, hneg])
              go_wp2_with fail
              go_ret2
              exact ⟨by rw [hfin.out]; rfl, hB5.out⟩
            · have hfin := Lib.hid (show numRes ys = (0, false) by rw [hresw.out]; simp [hlz])
              go_wp2_with fail
              go_ret2
              exact ⟨by rw [hfin.out]; rfl, hB5.out⟩
    · have hneg' : (bits BinOp.and IntKind.i64 m 2 != 0) = true := hneg
      first | go_quiet ((go_at_call 113; exact Calls.quiet_of_same ((impl_bitOf11 _).mono fun _ _ h => ⟨h.1, h.2.symm⟩))) | fail
      go_wp2_with fail
      first | go_region_with (go_at_call 113; refine (impl_bitOf11 _).mono ?_; rintro e w' ⟨rfl, rfl⟩) | fail
      all_goals
        have ho5 := (ho4'.out.kept (below_drewN (Below.refl _ _) (nq + 1))).store k (.int .i64 (clrI m))
        rw [← List.map_set] at ho5
        have hB5 := Lib.hid ((below_drewN hb4'.out (nq + 1)).setCell (p := ⟨g, k, none⟩) hg0 (.int .i64 (clrI m)))
        have hresn := Lib.hid (fun (h : numUp (ys.set k (clrI m)) (k + 1) = none) => (show numRes ys = (0, false) by rw [hres.out, h]))
        have hress := Lib.hid (fun (b : Bool) (n : Int) (h : numUp (ys.set k (clrI m)) (k + 1) = some (b, n)) => (show numRes ys = if !b || clrI m == 0 || (negB m && n == 0) then (0, false) else ((if negB m then -n else n), true) by rw [hres.out, h]))
        have hclr := Lib.hid (show bits BinOp.andNot IntKind.i64 m 2 = clrI m from rfl)
        go_wp2_with fail
        rw [hclr.out]
        generalize hW5 : ((w4.drewN (nq + 1)).setCell ⟨g, k, none⟩ (.int .i64 (clrI m))) = W5 at *
        have hzl : (ys.set k (clrI m)).length = k + 1 := by rw [List.length_set, hkk.out]
        have hzk : (ys.set k (clrI m))[k]? = some (clrI m) := by rw [List.getElem?_set]; have := hkk.out; simp; omega
        have hck := (ho5.1.cellAt k (by omega)).trans (map_at hzk)
        generalize hZ : ys.set k (clrI m) = zs at *
        have hzl' := Lib.hid hzl
        clear hZ hW5 hzl hzk
        go_loop [9, 10, 44] (fun n b i => ∃ (j : Nat) (bb : Bool) (v : Int), j ≤ k + 1 ∧ i = .int .i64 j ∧ n = .int .i64 v ∧ b = .bool bb ∧ Hid (numUp zs j = some (bb, v)) ∧ 0 ≤ v ∧ v ≤ 9000000000000) (fun _ _ i => k + 1 - (intOf i).toNat)
        case atStart => exact ⟨0, false, 0, by omega, rfl, rfl, rfl, Lib.hid (numUp_zero zs), by omega, by omega⟩
        case round =>
          obtain ⟨j, bb, v, hj, rfl, rfl, rfl, hup, hv0, hv1⟩ := hrel
          by_cases hlt : j < k + 1
          · obtain ⟨z, hz⟩ := get_some (l := zs) (k := j) (by rw [hzl'.out]; exact hlt)
            have hcz := (ho5.1.cellAt j (by omega)).trans (map_at hz)
            obtain ⟨⟨hb0, hb1⟩, n1, n2, n3⟩ := num_next hz hup.out (by omega)
            have n1' := Lib.hid n1
            have n2' := Lib.hid n2
            have n3' := Lib.hid n3
            have hd := digI_bd z
            have hlt' : (j : Int) < (k : Int) + 1 := by omega
            clear n1 n2 n3 hz
            cases hz0 : (z == 0)
            · by_cases hdn : digI z < 0
              · have hnone := Lib.hid (hresn.out (numUp_none (n2'.out (by rw [hz0]; rfl) hdn) (by omega)))
                go_wp2_with (go_at_call 126; ((with_reducible refine (impl_digitOf _ _).mono ?_); rintro e w' ⟨rfl, rfl⟩))
                go_ret2
                exact ⟨by rw [hnone.out]; rfl, hB5.out⟩
              · have hnx := Lib.hid (n3'.out (by rw [hz0]; rfl) hdn)
                go_wp2_with (go_at_call 126; ((with_reducible refine (impl_digitOf _ _).mono ?_); rintro e w' ⟨rfl, rfl⟩))
                go_round
                case rel => exact ⟨j + 1, true, _, by omega, by go_num, rfl, rfl, hnx, by omega, by omega⟩
                case measure => simp [intOf]; omega
            · have hz1 : z = 0 := by simpa using hz0
              cases bb
              · have hnx := Lib.hid (n1'.out (by rw [hz0]; rfl))
                go_wp2_with (go_at_call 126; ((with_reducible refine (impl_digitOf _ _).mono ?_); rintro e w' ⟨rfl, rfl⟩))
                go_round
                case rel => exact ⟨j + 1, false, v, by omega, by go_num, rfl, rfl, hnx, by omega, by omega⟩
                case measure => simp [intOf]; omega
              · have hdn : digI z < 0 := by rw [hz1, digI_zero]; omega
                have hnone := Lib.hid (hresn.out (numUp_none (n2'.out (by rw [hz0]; rfl) hdn) (by omega)))
                clear hz1
                go_wp2_with (go_at_call 126; ((with_reducible refine (impl_digitOf _ _).mono ?_); rintro e w' ⟨rfl, rfl⟩))
                go_ret2
                exact ⟨by rw [hnone.out]; rfl, hB5.out⟩
          · obtain rfl : j = k + 1 := by omega
            have hge : ¬ (((k + 1 : Nat) : Int)) < (k : Int) + 1 := by omega
            have hresw := Lib.hid (hress.out bb v hup.out)
            cases bb
            · have hfin := Lib.hid (show numRes ys = (0, false) by rw [hresw.out]; rfl)
              go_wp2_with fail
              go_ret2
              exact ⟨by rw [hfin.out]; rfl, hB5.out⟩
            cases hlz : (clrI m == 0)
            · skip
              cases hv0 : (v == 0)
              · have hfin := Lib.hid (show numRes ys = (-v, true) by rw [hresw.out]; simp [hlz, hneg, hv0])
                go_wp2_with fail
                go_ret2
                exact ⟨by rw [hfin.out]; rfl, hB5.out⟩
              · have hfin := Lib.hid (show numRes ys = (0, false) by rw [hresw.out]; simp [hlz, hneg, hv0])
                go_wp2_with fail
                go_ret2
                exact ⟨by rw [hfin.out]; rfl, hB5.out⟩
            · have hfin := Lib.hid (show numRes ys = (0, false) by rw [hresw.out]; simp [hlz])
              go_wp2_with fail
              go_ret2
              exact ⟨by rw [hfin.out]; rfl, hB5.out⟩
  · rw [hbl] at hc
    have hc' := Lib.hid hc
    have hres := Lib.hid (hblank.out hbl)
    clear hc hown hbl hb3
    go_wp2_with (go_at_call 90; ((with_reducible refine hc'.out.mono ?_); rintro e w4 ⟨rfl, hb4⟩))
    go_ret2
    exact ⟨by rw [hres.out]; rfl, bthen hbw.out hb4⟩
theorem numUp_skip {xs : List Int} : ∀ (k : Nat) {n : Int}, k ≤ xs.length → numUp xs k = some (false, n) → n = 0
  | 0, n, _, h => by rw [numUp_zero] at h; simp only [Option.some.injEq, Prod.mk.injEq] at h; omega
  | k + 1, n, hk, h => by
    obtain ⟨x, hx⟩ := get_some (l := xs) (k := k) (by omega)
    rw [numUp_succ hx] at h
    cases hq : numUp xs k with
    | none => rw [hq] at h; cases h
    | some s =>
      obtain ⟨b', n'⟩ := s
      rw [hq] at h
      cases hc : (x == 0 && !b')
      · by_cases h2 : digI x < 0
        · rw [step_none hc h2] at h; cases h
        · rw [step_dig hc h2] at h; simp at h
      · rw [step_skip hc] at h
        simp only [Bool.and_eq_true, Bool.not_eq_true'] at hc
        simp only [Option.some.injEq, Prod.mk.injEq] at h
        have hb : b' = false := hc.2
        subst hb
        have := numUp_skip k (by omega) hq
        omega
/-- what the reference's loop knows -/
def numInv (ys : List Int) (k j : Nat) (b : Bool) (v : Int) (g : Bool) : Prop :=
  (j ≤ k → g = false ∧ numUp ys j = some (b, v)) ∧ (j = k + 1 → numRes ys = if g then (if v = 0 then (0, false) else (-v, true)) else (v, true))
set_option maxHeartbeats 1000000 in
theorem spec_l03Number (a : Option Addr) (c : Nat) (ys : List Int) (w : World) (hx : RI w a ys) (h0 : 1 ≤ ys.length) (h12 : ys.length ≤ 12) (hms : ∀ m ∈ ys, 0 ≤ m ∧ m ≤ 4095) :
    Calls Tryz.prog 98 #[.slice a ys.length c] w fun e w' => e = .returned (.tuple #[.int .i64 (numRes ys).1, .bool (numRes ys).2]) ∧ w = w' := by
  obtain ⟨k, hk⟩ : ∃ k, ys.length = k + 1 := ⟨ys.length - 1, by omega⟩
  have hk11 : k ≤ 11 := by omega
  have hkk := Lib.hid hk
  have hmm := Lib.hid hms
  rw [hk]
  clear hk h0 h12 hms
  go_enter Tryz.func98, Tryz.ntmps98
  go_wp2_with fail
  go_loop [4, 5, 6, 7] (fun n b g i => ∃ (j : Nat) (bb : Bool) (v : Int) (gg : Bool), j ≤ k + 1 ∧ i = .int .i64 j ∧ n = .int .i64 v ∧ b = .bool bb ∧ g = .bool gg ∧ Hid (numInv ys k j bb v gg) ∧ 0 ≤ v ∧ v ≤ 9000000000000) (fun _ _ _ i => k + 1 - (intOf i).toNat)
  case atStart => exact ⟨0, false, 0, false, by omega, rfl, rfl, rfl, rfl, Lib.hid ⟨fun _ => ⟨rfl, numUp_zero ys⟩, fun h => by omega⟩, by omega, by omega⟩
  case round =>
    obtain ⟨j, bb, v, gg, hj, rfl, rfl, rfl, rfl, hinv, hv0, hv1⟩ := hrel
    by_cases hlt : j < k + 1
    · obtain ⟨hgg, hup⟩ := hinv.out.1 (by omega)
      subst hgg
      obtain ⟨z, hz⟩ := get_some (l := ys) (k := j) (by rw [hkk.out]; exact hlt)
      obtain ⟨b1, o1, rfl, hcz⟩ := hx.at hz
      obtain ⟨hz0, hz1⟩ := hmm.out z (List.mem_of_getElem? hz)
      obtain ⟨⟨hb0, hb1⟩, n1, n2, n3⟩ := num_next hz hup (by omega)
      have hz' := Lib.hid hz
      have hup' := Lib.hid hup
      have n1' := Lib.hid n1
      have n2' := Lib.hid n2
      have n3' := Lib.hid n3
      have hd := digI_bd z
      have hlt' : (j : Int) < (k : Int) + 1 := by omega
      clear n1 n2 n3 hz hup
      by_cases hjk : j < k
      · have hne : ((j : Int) == (k : Int)) = false := by simp; omega
        cases hzz : (z == 0)
        · by_cases hdn : digI z < 0
          · have hnone := Lib.hid (show numRes ys = (0, false) by
              obtain ⟨m, hm⟩ := get_some (l := ys) (k := k) (by rw [hkk.out]; omega)
              rw [numRes_of hkk.out hm, numUp_none (n2'.out (by rw [hzz]; rfl) hdn) (by omega)])
            go_wp2_with (go_at_call 133; ((with_reducible refine (spec_l03Digit _ _).mono ?_); rintro e w' ⟨rfl, rfl⟩))
            go_ret2
            exact ⟨by rw [hnone.out]; rfl, rfl⟩
          · have hnx := Lib.hid (n3'.out (by rw [hzz]; rfl) hdn)
            go_wp2_with (go_at_call 133; ((with_reducible refine (spec_l03Digit _ _).mono ?_); rintro e w' ⟨rfl, rfl⟩))
            go_round
            case rel => exact ⟨j + 1, true, _, false, by omega, by go_num, rfl, rfl, rfl, Lib.hid ⟨fun _ => ⟨rfl, hnx.out⟩, fun h => by omega⟩, by omega, by omega⟩
            case measure => simp [intOf] <;> omega
        · have hz9 : z = 0 := by simpa using hzz
          cases bb
          · have hnx := Lib.hid (n1'.out (by rw [hzz]; rfl))
            clear hz9
            go_wp2_with (go_at_call 133; ((with_reducible refine (spec_l03Digit _ _).mono ?_); rintro e w' ⟨rfl, rfl⟩))
            go_round
            case rel => exact ⟨j + 1, false, v, false, by omega, by go_num, rfl, rfl, rfl, Lib.hid ⟨fun _ => ⟨rfl, hnx.out⟩, fun h => by omega⟩, by omega, by omega⟩
            case measure => simp [intOf] <;> omega
          · have hdn : digI z < 0 := by rw [hz9, digI_zero]; omega
            have hnone := Lib.hid (show numRes ys = (0, false) by
              obtain ⟨m, hm⟩ := get_some (l := ys) (k := k) (by rw [hkk.out]; omega)
              rw [numRes_of hkk.out hm, numUp_none (n2'.out (by rw [hzz]; rfl) hdn) (by omega)])
            clear hz9
            go_wp2_with (go_at_call 133; ((with_reducible refine (spec_l03Digit _ _).mono ?_); rintro e w' ⟨rfl, rfl⟩))
            go_ret2
            exact ⟨by rw [hnone.out]; rfl, rfl⟩
      · obtain rfl : j = k := by omega
        have heq : ((j : Int) == (j : Int)) = true := by simp
        have hro := Lib.hid (numRes_of hkk.out hz'.out)
        rw [hup'.out] at hro
        obtain ⟨c1, c2⟩ := clr_is hz0 hz1
        cases hneg : negB z
        · have hneg' : (bits BinOp.and IntKind.i64 z 2 != 0) = false := hneg
          clear c1 c2
          cases hzz : (z == 0)
          · by_cases hdn : digI z < 0
            · have hf := Lib.hid (show numRes ys = (0, false) by rw [hro.out]; simp [hneg, hzz, hdn])
              go_wp2_with (go_at_call 133; ((with_reducible refine (spec_l03Digit _ _).mono ?_); rintro e w' ⟨rfl, rfl⟩))
              go_ret2
              exact ⟨by rw [hf.out]; rfl, rfl⟩
            · have hf := Lib.hid (show numRes ys = (10 * v + digI z, true) by rw [hro.out]; simp [hneg, hzz, hdn])
              go_wp2_with (go_at_call 133; ((with_reducible refine (spec_l03Digit _ _).mono ?_); rintro e w' ⟨rfl, rfl⟩))
              go_round
              case rel => exact ⟨j + 1, true, _, false, by omega, by go_num, rfl, rfl, rfl, Lib.hid ⟨fun h => by omega, fun _ => by rw [hf.out]; rfl⟩, by omega, by omega⟩
              case measure => simp [intOf] <;> omega
          · have hz9 : z = 0 := by simpa using hzz
            cases bb
            · have hv9 := Lib.hid (numUp_skip j (by rw [hkk.out]; omega) hup'.out)
              have hf := Lib.hid (show numRes ys = (v, true) by rw [hro.out, hv9.out]; simp [hneg, hzz])
              clear hz9
              go_wp2_with (go_at_call 133; ((with_reducible refine (spec_l03Digit _ _).mono ?_); rintro e w' ⟨rfl, rfl⟩))
              go_round
              case rel => exact ⟨j + 1, false, v, false, by omega, by go_num, rfl, rfl, rfl, Lib.hid ⟨fun h => by omega, fun _ => by rw [hf.out]; rfl⟩, by omega, by omega⟩
              case measure => simp [intOf] <;> omega
            · have hdn : digI z < 0 := by rw [hz9, digI_zero]; omega
              have hf := Lib.hid (show numRes ys = (0, false) by rw [hro.out]; simp [hneg, hdn])
              clear hz9
              go_wp2_with (go_at_call 133; ((with_reducible refine (spec_l03Digit _ _).mono ?_); rintro e w' ⟨rfl, rfl⟩))
              go_ret2
              exact ⟨by rw [hf.out]; rfl, rfl⟩
        · have hneg' : (bits BinOp.and IntKind.i64 z 2 != 0) = true := hneg
          have hcl := Lib.hid (c1 hneg)
          have hd2 := digI_bd (z - 2)
          clear c1 c2
          by_cases hdn : digI (z - 2) < 0
          · have hf := Lib.hid (show numRes ys = (0, false) by rw [hro.out]; simp [hneg, hcl.out, hdn])
            go_wp2_with (go_at_call 133; ((with_reducible refine (spec_l03Digit _ _).mono ?_); rintro e w' ⟨rfl, rfl⟩))
            all_goals
              go_ret2
              exact ⟨by rw [hf.out]; rfl, rfl⟩
          · have hf := Lib.hid (show numRes ys = if 10 * v + digI (z - 2) = 0 then (0, false) else (-(10 * v + digI (z - 2)), true) by rw [hro.out]; simp [hneg, hcl.out, hdn])
            have hz2 : (z - 2 == 0) = false := by
              rw [beq_eq_false_iff_ne]; intro e0
              rw [e0, digI_zero] at hdn; omega
            go_wp2_with (go_at_call 133; ((with_reducible refine (spec_l03Digit _ _).mono ?_); rintro e w' ⟨rfl, rfl⟩))
            all_goals
              go_round
              case rel => exact ⟨j + 1, true, _, true, by omega, by go_num, rfl, rfl, rfl, Lib.hid ⟨fun h => by omega, fun _ => by rw [hf.out]; rfl⟩, by omega, by omega⟩
              case measure => simp [intOf] <;> omega
    · obtain rfl : j = k + 1 := by omega
      have hge : ¬ (((k + 1 : Nat) : Int)) < (k : Int) + 1 := by omega
      have hfin := Lib.hid (hinv.out.2 rfl)
      cases gg
      · go_wp2_with fail
        go_ret2
        exact ⟨by rw [hfin.out]; rfl, rfl⟩
      · by_cases hv9 : v = 0
        · have hf := Lib.hid (show numRes ys = (0, false) by rw [hfin.out]; simp [hv9])
          subst hv9
          go_wp2_with fail
          go_ret2
          exact ⟨by rw [hf.out]; rfl, rfl⟩
        · have hf := Lib.hid (show numRes ys = (-v, true) by rw [hfin.out]; simp [hv9])
          have hne0 : (v != 0) = true := by simpa using hv9
          go_wp2_with fail
          go_ret2
          exact ⟨by rw [hf.out]; rfl, rfl⟩
/-- the code of a card and a field that is asked for a number, and the number -/
def numInCode (xs : List Int) (f t : Int) : Int := if fieldI xs f t == 0 then (if 12 < t - f then 5 else if (numRes (partL xs f t)).2 then 0 else 8) else fieldI xs f t
def numInI (xs : List Int) (f t : Int) : Int := if numInCode xs f t == 0 then (numRes (partL xs f t)).1 else 0
theorem ni_bad {xs : List Int} {f t : Int} (h : (fieldI xs f t == 0) = false) : numInI xs f t = 0 ∧ numInCode xs f t = fieldI xs f t := by
  have h1 : numInCode xs f t = fieldI xs f t := by unfold numInCode; rw [h]; rfl
  exact ⟨by unfold numInI; rw [h1, h]; rfl, h1⟩
theorem ni_full {xs : List Int} {f t : Int} (h : fieldI xs f t = 0) (h2 : 12 < t - f) : numInI xs f t = 0 ∧ numInCode xs f t = 5 := by
  have h1 : numInCode xs f t = 5 := by unfold numInCode; rw [h]; simp [h2]
  exact ⟨by unfold numInI; rw [h1]; rfl, h1⟩
theorem ni_no {xs : List Int} {f t : Int} (h : fieldI xs f t = 0) (h2 : ¬ 12 < t - f) (h3 : (numRes (partL xs f t)).2 = false) : numInI xs f t = 0 ∧ numInCode xs f t = 8 := by
  have h1 : numInCode xs f t = 8 := by unfold numInCode; rw [h]; simp [h2, h3]
  exact ⟨by unfold numInI; rw [h1]; rfl, h1⟩
theorem ni_ok {xs : List Int} {f t : Int} (h : fieldI xs f t = 0) (h2 : ¬ 12 < t - f) (h3 : (numRes (partL xs f t)).2 = true) : numInI xs f t = (numRes (partL xs f t)).1 ∧ numInCode xs f t = 0 := by
  have h1 : numInCode xs f t = 0 := by unfold numInCode; rw [h]; simp [h2, h3]
  exact ⟨by unfold numInI; rw [h1]; rfl, h1⟩
theorem valid_masks {xs : List Int} (h : validCardL xs = true) : ∀ m ∈ xs, 0 ≤ m ∧ m ≤ 4095 := by
  unfold validCardL at h
  simp only [Bool.and_eq_true] at h
  intro m hm
  exact inB_true.1 (List.all_eq_true.1 h.2 m hm)
end Go.Proofs.YtmpfnkheohlmiaaGreatDoor
