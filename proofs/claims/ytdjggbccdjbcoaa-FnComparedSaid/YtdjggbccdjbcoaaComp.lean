/- The walks of the functions that compare fields of cards: what each returns, and that memory has at most new blocks. -/
import Derived.Test.YtdjggbccdjbcoaaField
import Derived.Test.YtdjggbccdjbcoaaRead
import Derived.Deep.RegionWith
namespace Go.Proofs.Ytdjggbccdjbcoaa
open Go.RowKit
set_option maxRecDepth 100000
set_option linter.unusedVariables false
set_option linter.unusedSimpArgs false
set_option linter.unnecessarySimpa false

def sgnI (p q : Int) : Int := if p < q then -1 else 1
def cmpI (xs ys : List Int) : Int := match (xs.zip ys).find? (fun p => !(rankM p.1 == rankM p.2)) with | some p => sgnI (rankM p.1) (rankM p.2) | none => 0
def cmpC (l r : List UInt8) : Int := match (l.zip r).find? (fun p => !(rankC p.1.toNat == rankC p.2.toNat)) with | some p => sgnI (rankC p.1.toNat) (rankC p.2.toNat) | none => 0
theorem rankC_of {m : Int} (h : 0 ≤ rankM m) : rankC (chU m).toNat = rankM m := by
  obtain ⟨k, hk⟩ := Int.eq_ofNat_of_zero_le h
  have hlt : k < 40 := by have := rankM_ge m; omega
  rw [chU_is h, hk]
  exact rankC_hit hlt (char_at hk hlt).symm
theorem cmp_text : ∀ (xs ys : List Int), legalL xs = true → legalL ys = true → cmpC (textL xs) (textL ys) = cmpI xs ys
  | [], ys, _, _ => by simp [cmpC, cmpI, textL]
  | x :: r, [], _, _ => by simp [cmpC, cmpI, textL]
  | x :: r, y :: s, h1, h2 => by
    simp only [legalL, List.all_cons, Bool.and_eq_true, legalB, decide_eq_true_eq] at h1 h2
    have ih := cmp_text r s h1.2 h2.2
    have e1 := rankC_of h1.1
    have e2 := rankC_of h2.1
    unfold cmpC cmpI textL at *
    simp only [List.map_cons, List.zip_cons_cons, List.find?_cons, e1, e2]
    by_cases he : rankM x = rankM y
    · simp only [he, beq_self_eq_true, Bool.not_true]; exact ih
    · have : (!(rankM x == rankM y)) = true := by simpa using he
      rw [this]
      simp only [e1, e2]
theorem zip_at {α β : Type} {xs : List α} {ys : List β} {k : Nat} {x : α} {y : β} (hx : xs[k]? = some x) (hy : ys[k]? = some y) : (xs.zip ys)[k]? = some (x, y) := by
  simp [List.getElem?_zip_eq_some, hx, hy]
theorem cmp_hit {xs ys : List Int} {k : Nat} {x y : Int} (hx : xs[k]? = some x) (hy : ys[k]? = some y) (h : ((xs.zip ys).take k).all (fun p => rankM p.1 == rankM p.2) = true) (hne : ¬ rankM x = rankM y) : cmpI xs ys = sgnI (rankM x) (rankM y) := by
  have := (find_hit (p := fun p : Int × Int => !(rankM p.1 == rankM p.2)) (zip_at hx hy) (by simpa using h) (by simpa using hne)).2
  unfold cmpI; rw [this]
theorem cmp_none {xs ys : List Int} {k : Nat} (hk : xs.length ≤ k) (h : ((xs.zip ys).take k).all (fun p => rankM p.1 == rankM p.2) = true) : cmpI xs ys = 0 := by
  have := (find_none (p := fun p : Int × Int => !(rankM p.1 == rankM p.2)) (l := xs.zip ys) (k := k) (by rw [List.length_zip]; omega) (by simpa using h)).2
  unfold cmpI; rw [this]
theorem cmpC_hit {xs ys : List UInt8} {k : Nat} {x y : UInt8} (hx : xs[k]? = some x) (hy : ys[k]? = some y) (h : ((xs.zip ys).take k).all (fun p => rankC p.1.toNat == rankC p.2.toNat) = true) (hne : ¬ rankC x.toNat = rankC y.toNat) : cmpC xs ys = sgnI (rankC x.toNat) (rankC y.toNat) := by
  have := (find_hit (p := fun p : UInt8 × UInt8 => !(rankC p.1.toNat == rankC p.2.toNat)) (zip_at hx hy) (by simpa using h) (by simpa using hne)).2
  unfold cmpC; rw [this]
theorem cmpC_none {xs ys : List UInt8} {k : Nat} (hk : xs.length ≤ k) (h : ((xs.zip ys).take k).all (fun p => rankC p.1.toNat == rankC p.2.toNat) = true) : cmpC xs ys = 0 := by
  have := (find_none (p := fun p : UInt8 × UInt8 => !(rankC p.1.toNat == rankC p.2.toNat)) (l := xs.zip ys) (k := k) (by rw [List.length_zip]; omega) (by simpa using h)).2
  unfold cmpC; rw [this]
theorem sgn_lt {p q : Int} (h : p < q) : sgnI p q = -1 := by unfold sgnI; rw [if_pos h]
theorem sgn_gt {p q : Int} (h : q < p) : sgnI p q = 1 := by unfold sgnI; rw [if_neg (by omega)]
set_option maxHeartbeats 800000 in
theorem impl_compareHoles (a : Option Addr) (c : Nat) (xs : List Int) (b : Option Addr) (d : Nat) (ys : List Int) (w : World) (hx : RI w a xs) (hy : RI w b ys) (hn : xs.length ≤ 1048576) (hl : xs.length = ys.length) :
    Calls Try.prog 122 #[.slice a xs.length c, .slice b ys.length d] w fun e w' => e = .returned (.int .i64 (cmpI xs ys)) ∧ Below w.heap.size w w' := by
  generalize hN : xs.length = n at *
  have hN' := Lib.hid hN
  have hl' := Lib.hid hl
  rw [← hl]
  clear hN hl
  go_enter Try.func122, Try.ntmps122
  go_wp2_with fail
  go_loopw [10] (fun i wr => ∃ k : Nat, k ≤ n ∧ i = .int .i64 k ∧ Hid (((xs.zip ys).take k).all (fun p => rankM p.1 == rankM p.2) = true) ∧ Below w.heap.size w wr) (fun i _ => n - (intOf i).toNat)
  case atStart => exact ⟨0, by omega, rfl, Lib.hid rfl, Below.refl _ _⟩
  case round =>
    obtain ⟨k, hk, rfl, hall, hb⟩ := hrel
    by_cases hlt : k < n
    · obtain ⟨x, hxk⟩ := get_some (l := xs) (k := k) (by rw [hN'.out]; exact hlt)
      obtain ⟨y, hyk⟩ := get_some (l := ys) (k := k) (by rw [← hl'.out]; exact hlt)
      obtain ⟨b1, o1, rfl, hc1⟩ := (hx.kept hb).at hxk
      obtain ⟨b2, o2, rfl, hc2⟩ := (hy.kept hb).at hyk
      have hhit := Lib.hid (cmp_hit hxk hyk hall.out)
      have hnx := Lib.hid (fun (h : (rankM x == rankM y) = true) => all_succ (zip_at hxk hyk) hall.out h)
      clear hxk hyk
      by_cases h1 : rankM x < rankM y
      · have hf := Lib.hid ((hhit.out (by omega)).trans (sgn_lt h1))
        go_wp2_with fail
        first | go_quiet ((go_at_call 76; exact Calls.quiet_of_same ((impl_rankOf _ _).mono fun _ _ h => ⟨h.1, h.2.symm⟩))) | fail
        go_wp2_with fail
        go_ret
        exact ⟨ret_int (by rw [hf.out]), below_drewN hb _⟩
      · by_cases h2 : rankM y < rankM x
        · have hf := Lib.hid ((hhit.out (by omega)).trans (sgn_gt h2))
          go_wp2_with fail
          first | go_quiet ((go_at_call 76; exact Calls.quiet_of_same ((impl_rankOf _ _).mono fun _ _ h => ⟨h.1, h.2.symm⟩))) | fail
          go_wp2_with fail
          go_ret
          exact ⟨ret_int (by rw [hf.out]), below_drewN hb _⟩
        · have hf := Lib.hid (hnx.out (by simp; omega))
          go_wp2_with fail
          first | go_quiet ((go_at_call 76; exact Calls.quiet_of_same ((impl_rankOf _ _).mono fun _ _ h => ⟨h.1, h.2.symm⟩))) | fail
          go_wp2_with fail
          go_roundw
          case rel => exact ⟨k + 1, by omega, by go_num, hf, below_drewN hb _⟩
          case measure => simp [intOf] <;> omega
    · have hf := Lib.hid (cmp_none (by rw [hN'.out]; omega) hall.out)
      go_wp2_with fail
      go_ret
      exact ⟨ret_int (by rw [hf.out]), hb⟩
theorem partL_eq {xs : List Int} {f t : Nat} (h : fieldB (f : Int) (t : Int) xs.length = true) : (partL xs (f : Int) (t : Int)).length = t - f := by rw [partL_length h]; omega
set_option maxHeartbeats 400000 in
theorem impl_hasField (a : Option Addr) (c : Nat) (xs : List Int) (f t : Int) (w : World) (hx : RI w a xs) (hn : xs.length ≤ 1048576) (hcap : xs.length ≤ c) (hq : fieldB f t xs.length = true) :
    Calls Try.prog 95 #[.agg #[.slice a xs.length c], .agg #[.int .i64 f, .int .i64 t]] w fun e w' => e = .returned (.bool (legalL (partL xs f t))) ∧ Below w.heap.size w w' := by
  have hb2 := Lib.hid (below_alloc2 w (.cells #[.slice a xs.length c] 48) (.cells #[.int .i64 f, .int .i64 t] 37))
  obtain ⟨h1, h2, h3⟩ := fieldB_yes hq
  obtain ⟨x, hx0⟩ := get_some (l := xs) (k := 0) (by omega)
  obtain ⟨b1, o1, rfl, hc1⟩ := hx.at hx0
  obtain ⟨f, rfl⟩ := Int.eq_ofNat_of_zero_le h1
  obtain ⟨t, rfl⟩ := Int.eq_ofNat_of_zero_le (show 0 ≤ t by omega)
  have h2' : f ≤ t := by omega
  have h3' : t ≤ xs.length := by omega
  have h4' : t ≤ c := by omega
  clear hx0 hc1
  have hl := partL_eq hq
  have hc := impl_hasCharacters (some ⟨b1, o1 + f, Option.none⟩) (c - f) (partL xs f t) _ (ri_sub (hx.kept hb2.out) f ((t : Int) - f).toNat) (partL_small _ _ (small hn))
  rw [hl] at hc
  have hc' := Lib.hid hc
  clear hc hl
  go_enter Try.func95, Try.ntmps95
  go_wp2_with (go_at_call 82; ((with_reducible refine hc'.out.mono ?_); rintro e w' ⟨rfl, hb⟩))
  go_ret
  exact ⟨rfl, bthen hb2.out hb⟩
set_option maxHeartbeats 800000 in
theorem impl_compareFields (a : Option Addr) (c : Nat) (xs : List Int) (b : Option Addr) (d : Nat) (ys : List Int) (f t : Int) (w : World) (hx : RI w a xs) (hy : RI w b ys) (hn : xs.length ≤ 1048576) (hcap : xs.length ≤ c) (hcap2 : ys.length ≤ d) (hq : fieldB f t xs.length = true) (hq2 : fieldB f t ys.length = true) :
    Calls Try.prog 96 #[.agg #[.slice a xs.length c], .agg #[.slice b ys.length d], .agg #[.int .i64 f, .int .i64 t]] w fun e w' => e = .returned (.int .i64 (cmpI (partL xs f t) (partL ys f t))) ∧ Below w.heap.size w w' := by
  have hb2 := below_alloc3 w (.cells #[.slice a xs.length c] 48) (.cells #[.slice b ys.length d] 48) (.cells #[.int .i64 f, .int .i64 t] 37)
  obtain ⟨h1, h2, h3⟩ := fieldB_yes hq
  obtain ⟨_, _, h3y⟩ := fieldB_yes hq2
  obtain ⟨x, hx0⟩ := get_some (l := xs) (k := 0) (by omega)
  obtain ⟨b1, o1, rfl, hc1⟩ := hx.at hx0
  obtain ⟨y, hy0⟩ := get_some (l := ys) (k := 0) (by omega)
  obtain ⟨b2, o2, rfl, hd1⟩ := hy.at hy0
  obtain ⟨f, rfl⟩ := Int.eq_ofNat_of_zero_le h1
  obtain ⟨t, rfl⟩ := Int.eq_ofNat_of_zero_le (show 0 ≤ t by omega)
  have h2' : f ≤ t := by omega
  have h3' : t ≤ xs.length := by omega
  have h4' : t ≤ c := by omega
  have h3y' : t ≤ ys.length := by omega
  have h4y' : t ≤ d := by omega
  have i1 : (f : Int) ≤ (t : Int) := by omega
  have i2 : (t : Int) ≤ (c : Int) := by omega
  have i3 : (t : Int) ≤ (d : Int) := by omega
  have j1 : ¬ c = f := by omega
  have j2 : ¬ d = f := by omega
  clear hx0 hc1 hy0 hd1
  have hl := partL_eq hq
  have hly := partL_eq hq2
  have hrx := hx.kept hb2
  have hry := hy.kept hb2
  have e0 : (((w.alloc (.cells #[.slice (some ⟨b1, o1, none⟩) xs.length c] 48)).alloc (.cells #[.slice (some ⟨b2, o2, none⟩) ys.length d] 48)).alloc (.cells #[.int .i64 f, .int .i64 t] 37)).cell? ⟨w.heap.size, 0, none⟩ = some (.slice (some ⟨b1, o1, none⟩) xs.length c) := by simp [go_sem]
  have e1 : (((w.alloc (.cells #[.slice (some ⟨b1, o1, none⟩) xs.length c] 48)).alloc (.cells #[.slice (some ⟨b2, o2, none⟩) ys.length d] 48)).alloc (.cells #[.int .i64 f, .int .i64 t] 37)).cell? ⟨w.heap.size + 1, 0, none⟩ = some (.slice (some ⟨b2, o2, none⟩) ys.length d) := by simp [go_sem]
  have e2 : (((w.alloc (.cells #[.slice (some ⟨b1, o1, none⟩) xs.length c] 48)).alloc (.cells #[.slice (some ⟨b2, o2, none⟩) ys.length d] 48)).alloc (.cells #[.int .i64 f, .int .i64 t] 37)).cell? ⟨w.heap.size + 1 + 1, 0, none⟩ = some (.int .i64 f) := by simp [go_sem]
  have e3 : (((w.alloc (.cells #[.slice (some ⟨b1, o1, none⟩) xs.length c] 48)).alloc (.cells #[.slice (some ⟨b2, o2, none⟩) ys.length d] 48)).alloc (.cells #[.int .i64 f, .int .i64 t] 37)).cell? ⟨w.heap.size + 1 + 1, 1, none⟩ = some (.int .i64 t) := by simp [go_sem]
  go_enter Try.func96, Try.ntmps96
  go_wp2_with fail
  generalize hW : (((w.alloc (.cells #[.slice (some ⟨b1, o1, none⟩) xs.length c] 48)).alloc (.cells #[.slice (some ⟨b2, o2, none⟩) ys.length d] 48)).alloc (.cells #[.int .i64 f, .int .i64 t] 37)) = W0 at *
  have hc := fun (W : World) (hb : Below W0.heap.size W0 W) => impl_compareHoles (some ⟨b1, o1 + f, Option.none⟩) (c - f) (partL xs f t) (some ⟨b2, o2 + f, Option.none⟩) (d - f) (partL ys f t) W ((ri_sub hrx f ((t : Int) - f).toNat).kept hb) ((ri_sub hry f ((t : Int) - f).toNat).kept hb) (partL_small _ _ hn) (by rw [hl, hly])
  rw [hl, hly] at hc
  have hc' := Lib.hid hc
  clear hc hl hly hW
  (first | go_region_held3 (fun W => Below W0.heap.size W0 W ∧ W.cell? ⟨w.heap.size, 0, none⟩ = some (.slice (some ⟨b1, o1, none⟩) xs.length c) ∧ W.cell? ⟨w.heap.size + 1, 0, none⟩ = some (.slice (some ⟨b2, o2, none⟩) ys.length d) ∧ W.cell? ⟨w.heap.size + 1 + 1, 0, none⟩ = some (.int .i64 f) ∧ W.cell? ⟨w.heap.size + 1 + 1, 1, none⟩ = some (.int .i64 t)) (first | exact held4 (below_drewN (Below.refl _ _) 1) e0 e1 e2 e3 | (rename Below W0.heap.size W0 _ ∧ _ => hH; refine held4 ?_ e0 e1 e2 e3; (refine bthen hH.1 ?_; assumption))) (first | (go_at_call 122; ((with_reducible refine (hc'.out _ (And.left ‹Below W0.heap.size W0 _ ∧ _›)).mono ?_); rintro e wq0 ⟨rfl, hbq⟩))) | fail)
  all_goals
    have hHb := And.left ‹Below W0.heap.size W0 _ ∧ _›
    go_wp2_with fail
    go_ret
    exact ⟨rfl, bthen hb2 hHb⟩
def cmpCode (xs ys : List Int) (f t : Int) : Int := if validCardL xs && validCardL ys then (if fieldB f t xs.length && fieldB f t ys.length then (if legalL (partL xs f t) && legalL (partL ys f t) then 0 else 8) else 2) else 1
def cmpFI (xs ys : List Int) (f t : Int) : Int := if cmpCode xs ys f t == 0 then cmpI (partL xs f t) (partL ys f t) else 0
theorem cf_not {xs ys : List Int} {f t : Int} {k : Int} (h : cmpCode xs ys f t = k) (hk : (k == 0) = false) : cmpFI xs ys f t = 0 ∧ cmpCode xs ys f t = k := ⟨by unfold cmpFI; rw [h, hk]; rfl, h⟩
theorem cf_v1 {xs : List Int} (ys : List Int) (f t : Int) (h : validCardL xs = false) : cmpFI xs ys f t = 0 ∧ cmpCode xs ys f t = 1 := cf_not (by unfold cmpCode; rw [h]; rfl) rfl
theorem cf_v2 (xs : List Int) {ys : List Int} (f t : Int) (h : validCardL ys = false) : cmpFI xs ys f t = 0 ∧ cmpCode xs ys f t = 1 := cf_not (by unfold cmpCode; rw [h]; simp) rfl
theorem cf_f1 {xs ys : List Int} {f t : Int} (h1 : validCardL xs = true) (h2 : validCardL ys = true) (h : fieldB f t xs.length = false) : cmpFI xs ys f t = 0 ∧ cmpCode xs ys f t = 2 := cf_not (by unfold cmpCode; rw [h1, h2, h]; rfl) rfl
theorem cf_f2 {xs ys : List Int} {f t : Int} (h1 : validCardL xs = true) (h2 : validCardL ys = true) (h : fieldB f t ys.length = false) : cmpFI xs ys f t = 0 ∧ cmpCode xs ys f t = 2 := cf_not (by unfold cmpCode; rw [h1, h2, h]; simp) rfl
theorem cf_l1 {xs ys : List Int} {f t : Int} (h1 : validCardL xs = true) (h2 : validCardL ys = true) (h3 : fieldB f t xs.length = true) (h4 : fieldB f t ys.length = true) (h : legalL (partL xs f t) = false) : cmpFI xs ys f t = 0 ∧ cmpCode xs ys f t = 8 := cf_not (by unfold cmpCode; rw [h1, h2, h3, h4, h]; rfl) rfl
theorem cf_l2 {xs ys : List Int} {f t : Int} (h1 : validCardL xs = true) (h2 : validCardL ys = true) (h3 : fieldB f t xs.length = true) (h4 : fieldB f t ys.length = true) (h : legalL (partL ys f t) = false) : cmpFI xs ys f t = 0 ∧ cmpCode xs ys f t = 8 := cf_not (by unfold cmpCode; rw [h1, h2, h3, h4, h]; simp) rfl
theorem cf_ok {xs ys : List Int} {f t : Int} (h1 : validCardL xs = true) (h2 : validCardL ys = true) (h3 : fieldB f t xs.length = true) (h4 : fieldB f t ys.length = true) (h5 : legalL (partL xs f t) = true) (h6 : legalL (partL ys f t) = true) : cmpFI xs ys f t = cmpI (partL xs f t) (partL ys f t) ∧ cmpCode xs ys f t = 0 := by
  have h : cmpCode xs ys f t = 0 := by unfold cmpCode; rw [h1, h2, h3, h4, h5, h6]; rfl
  exact ⟨by unfold cmpFI; rw [h]; rfl, h⟩
set_option maxHeartbeats 1000000 in
theorem impl_CompareFields (a : Option Addr) (c : Nat) (xs : List Int) (b : Option Addr) (d : Nat) (ys : List Int) (f t : Int) (w : World) (hx : RI w a xs) (hy : RI w b ys) (hn : xs.length ≤ 1048576) (hcap : xs.length ≤ c) (hn2 : ys.length ≤ 1048576) (hcap2 : ys.length ≤ d) :
    Calls Try.prog 44 #[.agg #[.slice a xs.length c], .agg #[.slice b ys.length d], .agg #[.int .i64 f, .int .i64 t]] w fun e w' => e = .returned (.tuple #[.int .i64 (cmpFI xs ys f t), .int .i64 (cmpCode xs ys f t)]) ∧ Below w.heap.size w w' := by
  have hb1 := Lib.hid (below_alloc3 w (.cells #[.slice a xs.length c] 48) (.cells #[.slice b ys.length d] 48) (.cells #[.int .i64 f, .int .i64 t] 37))
  go_enter Try.func44, Try.ntmps44
  go_wp2_with fail
  refine (impl_ValidCard a c xs _ (hx.kept hb1.out) (small hn)).mono ?_
  rintro e w2 ⟨rfl, hb⟩
  (have hc0 := keep (p := ⟨w.heap.size, 0, none⟩) (v := .slice a xs.length c) hb (by simp [go_sem, *]); have hf0 := keepf (p := ⟨w.heap.size, 0, none⟩) (v := .slice a xs.length c) hb (by simp [go_sem, *]) (by simp [go_sem, *]); have hl0 := World.block_lt_of_cell? _ _ hc0; have hc1 := keep (p := ⟨w.heap.size + 1, 0, none⟩) (v := .slice b ys.length d) hb (by simp [go_sem, *]); have hf1 := keepf (p := ⟨w.heap.size + 1, 0, none⟩) (v := .slice b ys.length d) hb (by simp [go_sem, *]) (by simp [go_sem, *]); have hl1 := World.block_lt_of_cell? _ _ hc1; have hc2 := keep (p := ⟨w.heap.size + 1 + 1, 0, none⟩) (v := .int .i64 f) hb (by simp [go_sem, *]); have hf2 := keepf (p := ⟨w.heap.size + 1 + 1, 0, none⟩) (v := .int .i64 f) hb (by simp [go_sem, *]) (by simp [go_sem, *]); have hl2 := World.block_lt_of_cell? _ _ hc2; have hc3 := keep (p := ⟨w.heap.size + 1 + 1, 1, none⟩) (v := .int .i64 t) hb (by simp [go_sem, *]); have hf3 := keepf (p := ⟨w.heap.size + 1 + 1, 1, none⟩) (v := .int .i64 t) hb (by simp [go_sem, *]) (by simp [go_sem, *]); have hl3 := World.block_lt_of_cell? _ _ hc3)
  have hb2 := Lib.hid (bthen hb1.out hb)
  clear hb
  cases hv : validCardL xs
  · have hf := Lib.hid (cf_v1 ys f t hv)
    go_wp2_with fail
    go_ret2
    exact ⟨by rw [hf.out.1, hf.out.2]; rfl, hb2.out⟩
  go_wp2_with fail
  refine (impl_ValidCard b d ys _ (hy.kept hb2.out) (small hn2)).mono ?_
  rintro e w3 ⟨rfl, hb⟩
  (have hc0 := keep (p := ⟨w.heap.size, 0, none⟩) (v := .slice a xs.length c) hb (by simp [go_sem, *]); have hf0 := keepf (p := ⟨w.heap.size, 0, none⟩) (v := .slice a xs.length c) hb (by simp [go_sem, *]) (by simp [go_sem, *]); have hl0 := World.block_lt_of_cell? _ _ hc0; have hc1 := keep (p := ⟨w.heap.size + 1, 0, none⟩) (v := .slice b ys.length d) hb (by simp [go_sem, *]); have hf1 := keepf (p := ⟨w.heap.size + 1, 0, none⟩) (v := .slice b ys.length d) hb (by simp [go_sem, *]) (by simp [go_sem, *]); have hl1 := World.block_lt_of_cell? _ _ hc1; have hc2 := keep (p := ⟨w.heap.size + 1 + 1, 0, none⟩) (v := .int .i64 f) hb (by simp [go_sem, *]); have hf2 := keepf (p := ⟨w.heap.size + 1 + 1, 0, none⟩) (v := .int .i64 f) hb (by simp [go_sem, *]) (by simp [go_sem, *]); have hl2 := World.block_lt_of_cell? _ _ hc2; have hc3 := keep (p := ⟨w.heap.size + 1 + 1, 1, none⟩) (v := .int .i64 t) hb (by simp [go_sem, *]); have hf3 := keepf (p := ⟨w.heap.size + 1 + 1, 1, none⟩) (v := .int .i64 t) hb (by simp [go_sem, *]) (by simp [go_sem, *]); have hl3 := World.block_lt_of_cell? _ _ hc3)
  have hb3 := Lib.hid (bthen hb2.out hb)
  clear hb
  cases hv2 : validCardL ys
  · have hf := Lib.hid (cf_v2 xs f t hv2)
    go_wp2_with fail
    go_ret2
    exact ⟨by rw [hf.out.1, hf.out.2]; rfl, hb3.out⟩
  cases hq : fieldB f t xs.length
  · have hf := Lib.hid (cf_f1 hv hv2 hq)
    have z2 : w3.drew.cell? ⟨w.heap.size + 1 + 1, 0, none⟩ = some (.int .i64 f) := hc2
    have z3 : w3.drew.cell? ⟨w.heap.size + 1 + 1, 1, none⟩ = some (.int .i64 t) := hc3
    go_wp2_with fail
    first | go_region_with (first | (go_at_call 91; ((with_reducible refine (impl_columns _ _ _ _).mono ?_); rintro e wq1 ⟨rfl, hbq1⟩; have z4 := keep hbq1 z2; have z5 := keep hbq1 z3)) | (go_at_call 94; ((with_reducible refine (impl_isField _ _ _ _).mono ?_); rintro e wq2 ⟨rfl, hbq2⟩))) | fail
    all_goals
      go_wp2_with fail
      go_ret2
      exact ⟨by rw [hf.out.1, hf.out.2]; rfl, bthen hb3.out (bthen (Below.refl _ _).drew (bthen hbq1 hbq2))⟩
  cases hq2 : fieldB f t ys.length
  · have hf := Lib.hid (cf_f2 hv hv2 hq2)
    go_wp2_with fail
    (first | go_region_held3 (fun W => Below w3.heap.size w3 W ∧ W.cell? ⟨w.heap.size, 0, none⟩ = some (.slice a xs.length c) ∧ W.cell? ⟨w.heap.size + 1, 0, none⟩ = some (.slice b ys.length d) ∧ W.cell? ⟨w.heap.size + 1 + 1, 0, none⟩ = some (.int .i64 f) ∧ W.cell? ⟨w.heap.size + 1 + 1, 1, none⟩ = some (.int .i64 t)) (first | exact held4 (below_drewN (Below.refl _ _) 1) hc0 hc1 hc2 hc3 | (rename Below w3.heap.size w3 _ ∧ _ => hH; refine held4 ?_ hc0 hc1 hc2 hc3; (refine bthen hH.1 ?_; assumption))) (first | (go_at_call 91; ((with_reducible refine (impl_columns _ _ _ _).mono ?_); rintro e wq0 ⟨rfl, hbq⟩)) | (go_at_call 94; ((with_reducible refine (impl_isField _ _ _ _).mono ?_); rintro e wq1 ⟨rfl, hbq⟩))) | fail)
    all_goals
      have hHb := And.left ‹Below w3.heap.size w3 _ ∧ _›
      go_wp2_with fail
      go_ret2
      exact ⟨by rw [hf.out.1, hf.out.2]; rfl, bthen hb3.out hHb⟩
  go_wp2_with fail
  (first | go_region_held3 (fun W => Below w3.heap.size w3 W ∧ W.cell? ⟨w.heap.size, 0, none⟩ = some (.slice a xs.length c) ∧ W.cell? ⟨w.heap.size + 1, 0, none⟩ = some (.slice b ys.length d) ∧ W.cell? ⟨w.heap.size + 1 + 1, 0, none⟩ = some (.int .i64 f) ∧ W.cell? ⟨w.heap.size + 1 + 1, 1, none⟩ = some (.int .i64 t)) (first | exact held4 (below_drewN (Below.refl _ _) 1) hc0 hc1 hc2 hc3 | (rename Below w3.heap.size w3 _ ∧ _ => hH; refine held4 ?_ hc0 hc1 hc2 hc3; (refine bthen hH.1 ?_; assumption))) (first | (go_at_call 91; ((with_reducible refine (impl_columns _ _ _ _).mono ?_); rintro e wq0 ⟨rfl, hbq⟩)) | (go_at_call 94; ((with_reducible refine (impl_isField _ _ _ _).mono ?_); rintro e wq1 ⟨rfl, hbq⟩))) | fail)
  have hHb : Below w3.heap.size w3 wq1 := And.left ‹Below w3.heap.size w3 _ ∧ _›
  (have hc0 := keep (p := ⟨w.heap.size, 0, none⟩) (v := .slice a xs.length c) hHb (by simp [go_sem, *]); have hf0 := keepf (p := ⟨w.heap.size, 0, none⟩) (v := .slice a xs.length c) hHb (by simp [go_sem, *]) (by simp [go_sem, *]); have hl0 := World.block_lt_of_cell? _ _ hc0; have hc1 := keep (p := ⟨w.heap.size + 1, 0, none⟩) (v := .slice b ys.length d) hHb (by simp [go_sem, *]); have hf1 := keepf (p := ⟨w.heap.size + 1, 0, none⟩) (v := .slice b ys.length d) hHb (by simp [go_sem, *]) (by simp [go_sem, *]); have hl1 := World.block_lt_of_cell? _ _ hc1; have hc2 := keep (p := ⟨w.heap.size + 1 + 1, 0, none⟩) (v := .int .i64 f) hHb (by simp [go_sem, *]); have hf2 := keepf (p := ⟨w.heap.size + 1 + 1, 0, none⟩) (v := .int .i64 f) hHb (by simp [go_sem, *]) (by simp [go_sem, *]); have hl2 := World.block_lt_of_cell? _ _ hc2; have hc3 := keep (p := ⟨w.heap.size + 1 + 1, 1, none⟩) (v := .int .i64 t) hHb (by simp [go_sem, *]); have hf3 := keepf (p := ⟨w.heap.size + 1 + 1, 1, none⟩) (v := .int .i64 t) hHb (by simp [go_sem, *]) (by simp [go_sem, *]); have hl3 := World.block_lt_of_cell? _ _ hc3)
  have hb7 := Lib.hid (bthen hb3.out hHb)
  clear hHb
  go_wp2_with fail
  refine (impl_hasField a c xs f t _ (hx.kept hb7.out) hn hcap hq).mono ?_
  rintro e w8 ⟨rfl, hb⟩
  (have hc0 := keep (p := ⟨w.heap.size, 0, none⟩) (v := .slice a xs.length c) hb (by simp [go_sem, *]); have hf0 := keepf (p := ⟨w.heap.size, 0, none⟩) (v := .slice a xs.length c) hb (by simp [go_sem, *]) (by simp [go_sem, *]); have hl0 := World.block_lt_of_cell? _ _ hc0; have hc1 := keep (p := ⟨w.heap.size + 1, 0, none⟩) (v := .slice b ys.length d) hb (by simp [go_sem, *]); have hf1 := keepf (p := ⟨w.heap.size + 1, 0, none⟩) (v := .slice b ys.length d) hb (by simp [go_sem, *]) (by simp [go_sem, *]); have hl1 := World.block_lt_of_cell? _ _ hc1; have hc2 := keep (p := ⟨w.heap.size + 1 + 1, 0, none⟩) (v := .int .i64 f) hb (by simp [go_sem, *]); have hf2 := keepf (p := ⟨w.heap.size + 1 + 1, 0, none⟩) (v := .int .i64 f) hb (by simp [go_sem, *]) (by simp [go_sem, *]); have hl2 := World.block_lt_of_cell? _ _ hc2; have hc3 := keep (p := ⟨w.heap.size + 1 + 1, 1, none⟩) (v := .int .i64 t) hb (by simp [go_sem, *]); have hf3 := keepf (p := ⟨w.heap.size + 1 + 1, 1, none⟩) (v := .int .i64 t) hb (by simp [go_sem, *]) (by simp [go_sem, *]); have hl3 := World.block_lt_of_cell? _ _ hc3)
  have hb8 := Lib.hid (bthen hb7.out hb)
  clear hb
  cases hl : legalL (partL xs f t)
  · have hf := Lib.hid (cf_l1 hv hv2 hq hq2 hl)
    go_wp2_with fail
    go_ret2
    exact ⟨by rw [hf.out.1, hf.out.2]; rfl, hb8.out⟩
  go_wp2_with fail
  refine (impl_hasField b d ys f t _ (hy.kept hb8.out) hn2 hcap2 hq2).mono ?_
  rintro e w9 ⟨rfl, hb⟩
  (have hc0 := keep (p := ⟨w.heap.size, 0, none⟩) (v := .slice a xs.length c) hb (by simp [go_sem, *]); have hf0 := keepf (p := ⟨w.heap.size, 0, none⟩) (v := .slice a xs.length c) hb (by simp [go_sem, *]) (by simp [go_sem, *]); have hl0 := World.block_lt_of_cell? _ _ hc0; have hc1 := keep (p := ⟨w.heap.size + 1, 0, none⟩) (v := .slice b ys.length d) hb (by simp [go_sem, *]); have hf1 := keepf (p := ⟨w.heap.size + 1, 0, none⟩) (v := .slice b ys.length d) hb (by simp [go_sem, *]) (by simp [go_sem, *]); have hl1 := World.block_lt_of_cell? _ _ hc1; have hc2 := keep (p := ⟨w.heap.size + 1 + 1, 0, none⟩) (v := .int .i64 f) hb (by simp [go_sem, *]); have hf2 := keepf (p := ⟨w.heap.size + 1 + 1, 0, none⟩) (v := .int .i64 f) hb (by simp [go_sem, *]) (by simp [go_sem, *]); have hl2 := World.block_lt_of_cell? _ _ hc2; have hc3 := keep (p := ⟨w.heap.size + 1 + 1, 1, none⟩) (v := .int .i64 t) hb (by simp [go_sem, *]); have hf3 := keepf (p := ⟨w.heap.size + 1 + 1, 1, none⟩) (v := .int .i64 t) hb (by simp [go_sem, *]) (by simp [go_sem, *]); have hl3 := World.block_lt_of_cell? _ _ hc3)
  have hb9 := Lib.hid (bthen hb8.out hb)
  clear hb
  cases hl2 : legalL (partL ys f t)
  · have hf := Lib.hid (cf_l2 hv hv2 hq hq2 hl2)
    go_wp2_with fail
    go_ret2
    exact ⟨by rw [hf.out.1, hf.out.2]; rfl, hb9.out⟩
  have hf := Lib.hid (cf_ok hv hv2 hq hq2 hl hl2)
  go_wp2_with fail
  refine (impl_compareFields a c xs b d ys f t _ (hx.kept hb9.out) (hy.kept hb9.out) hn hcap hcap2 hq hq2).mono ?_
  rintro e w10 ⟨rfl, hb⟩
  go_wp2_with fail
  go_ret2
  exact ⟨by rw [hf.out.1, hf.out.2]; rfl, bthen hb9.out hb⟩
theorem textOr_size {xs : List Int} (h : legalL xs = true) : (textOrS xs).size = xs.length := by rw [textOr_yes h, textS_size]
theorem spec_l03Key (b : Nat) (a : Option Addr) (c : Nat) (xs : List Int) (f t : Int) (w : World) (hp : w.cell? ⟨b, 0, none⟩ = some (.slice a xs.length c)) (hx : RI w a xs) (hn : xs.length ≤ 1048576) (hcap : xs.length ≤ c) (hq : fieldB f t xs.length = true) :
    Calls Try.prog 98 #[.pointer (some ⟨b, 0, none⟩), .agg #[.int .i64 f, .int .i64 t]] w fun e w' => e = .returned (.tuple #[.string (textOrS (partL xs f t)), .bool (legalL (partL xs f t))]) ∧ Below w.heap.size w w' := by
  have hbl : b < w.heap.size := World.block_lt_of_cell? _ _ hp
  have hb1 := Lib.hid (below_alloc (w := w) (.cells #[.int .i64 f, .int .i64 t] 37))
  have hp1 := keep hb1.out hp
  go_enter Try.func98, Try.ntmps98
  go_wp2_with fail
  refine (spec_l02Part b a c xs f t _ hp1 (hx.kept hb1.out) (small hn) hcap hq).mono ?_
  rintro e w2 ⟨a2, c2, rfl, hr2, hb2⟩
  have hb2' := Lib.hid (bthen hb1.out hb2)
  clear hb2
  go_wp2_with fail
  refine (spec_l03Text a2 c2 _ _ hr2 (partL_small _ _ hn)).mono ?_
  rintro e w3 ⟨rfl, hb3⟩
  go_wp2_with fail
  go_ret2
  exact ⟨rfl, bthen hb2'.out hb3⟩
set_option maxHeartbeats 800000 in
theorem spec_l03Compare (s u : ByteArray) (w : World) (hs : s.size ≤ 1048576) (hsu : s.size = u.size) :
    Calls Try.prog 99 #[.string s, .string u] w fun e w' => e = .returned (.int .i64 (cmpC s.data.toList u.data.toList)) ∧ w = w' := by
  have hl := Lib.hid (len_bytes s)
  have hsu' := Lib.hid hsu
  go_enter Try.func99, Try.ntmps99
  go_wp2_with fail
  go_loop [5] (fun i => ∃ k : Nat, k ≤ s.size ∧ i = .int .i64 k ∧ Hid (((s.data.toList.zip u.data.toList).take k).all (fun p => rankC p.1.toNat == rankC p.2.toNat) = true)) (fun i => s.size - (intOf i).toNat)
  case atStart => exact ⟨0, by omega, rfl, Lib.hid rfl⟩
  case round =>
    obtain ⟨k, hk, rfl, hall⟩ := hrel
    by_cases hlt : k < s.size
    · have hlt2 : k < u.size := by omega
      have hg1 := get_bytes s k hlt
      have hg2 := get_bytes u k hlt2
      have hhit := Lib.hid (cmpC_hit hg1 hg2 hall.out)
      have hnx := Lib.hid (fun (h : (rankC (s[k]'hlt).toNat == rankC (u[k]'hlt2).toNat) = true) => all_succ (zip_at hg1 hg2) hall.out h)
      clear hg1 hg2
      by_cases h1 : rankC (s[k]'hlt).toNat < rankC (u[k]'hlt2).toNat
      · have hf := Lib.hid ((hhit.out (by omega)).trans (sgn_lt h1))
        go_wp2_with (go_at_call 125; ((with_reducible refine (spec_l03Rank _ _).mono ?_); rintro e w' ⟨rfl, rfl⟩))
        go_ret
        exact ⟨ret_int (by rw [hf.out]), rfl⟩
      · by_cases h2 : rankC (u[k]'hlt2).toNat < rankC (s[k]'hlt).toNat
        · have hf := Lib.hid ((hhit.out (by omega)).trans (sgn_gt h2))
          go_wp2_with (go_at_call 125; ((with_reducible refine (spec_l03Rank _ _).mono ?_); rintro e w' ⟨rfl, rfl⟩))
          go_ret
          exact ⟨ret_int (by rw [hf.out]), rfl⟩
        · have hf := Lib.hid (hnx.out (by simp; omega))
          go_wp2_with (go_at_call 125; ((with_reducible refine (spec_l03Rank _ _).mono ?_); rintro e w' ⟨rfl, rfl⟩))
          go_round
          case rel => exact ⟨k + 1, by omega, by go_num, hf⟩
          case measure => simp [intOf] <;> omega
    · have hf := Lib.hid (cmpC_none (xs := s.data.toList) (ys := u.data.toList) (k := k) (by rw [hl.out]; omega) hall.out)
      go_wp2_with fail
      go_ret
      exact ⟨ret_int (by rw [hf.out]), rfl⟩
theorem cmp_or {xs ys : List Int} (h1 : legalL xs = true) (h2 : legalL ys = true) : cmpC (textOrS xs).data.toList (textOrS ys).data.toList = cmpI xs ys := by
  rw [textOr_yes h1, textOr_yes h2]; exact cmp_text xs ys h1 h2
set_option maxHeartbeats 1000000 in
theorem spec_CompareFields (a : Option Addr) (c : Nat) (xs : List Int) (b : Option Addr) (d : Nat) (ys : List Int) (f t : Int) (w : World) (hx : RI w a xs) (hy : RI w b ys) (hn : xs.length ≤ 1048576) (hcap : xs.length ≤ c) (hn2 : ys.length ≤ 1048576) (hcap2 : ys.length ≤ d) :
    Calls Try.prog 45 #[.agg #[.slice a xs.length c], .agg #[.slice b ys.length d], .agg #[.int .i64 f, .int .i64 t]] w fun e w' => e = .returned (.tuple #[.int .i64 (cmpFI xs ys f t), .int .i64 (cmpCode xs ys f t)]) ∧ Below w.heap.size w w' := by
  have hb1 := Lib.hid (below_alloc3 w (.cells #[.slice a xs.length c] 48) (.cells #[.slice b ys.length d] 48) (.cells #[.int .i64 f, .int .i64 t] 37))
  have hm1 : xs.length ≤ 9223372036854775807 := by omega
  have hm2 : ys.length ≤ 9223372036854775807 := by omega
  have hc0 : (((w.alloc (.cells #[.slice a xs.length c] 48)).alloc (.cells #[.slice b ys.length d] 48)).alloc (.cells #[.int .i64 f, .int .i64 t] 37)).cell? ⟨w.heap.size, 0, none⟩ = some (.slice a xs.length c) := by simp [go_sem]
  have hc1 : (((w.alloc (.cells #[.slice a xs.length c] 48)).alloc (.cells #[.slice b ys.length d] 48)).alloc (.cells #[.int .i64 f, .int .i64 t] 37)).cell? ⟨w.heap.size + 1, 0, none⟩ = some (.slice b ys.length d) := by simp [go_sem]
  have hc2 : (((w.alloc (.cells #[.slice a xs.length c] 48)).alloc (.cells #[.slice b ys.length d] 48)).alloc (.cells #[.int .i64 f, .int .i64 t] 37)).cell? ⟨w.heap.size + 1 + 1, 0, none⟩ = some (.int .i64 f) := by simp [go_sem]
  have hc3 : (((w.alloc (.cells #[.slice a xs.length c] 48)).alloc (.cells #[.slice b ys.length d] 48)).alloc (.cells #[.int .i64 f, .int .i64 t] 37)).cell? ⟨w.heap.size + 1 + 1, 1, none⟩ = some (.int .i64 t) := by simp [go_sem]
  have hz0 : (((w.alloc (.cells #[.slice a xs.length c] 48)).alloc (.cells #[.slice b ys.length d] 48)).alloc (.cells #[.int .i64 f, .int .i64 t] 37)).frozen? ⟨w.heap.size, 0, none⟩ = false := by simp [go_sem]
  have hz1 : (((w.alloc (.cells #[.slice a xs.length c] 48)).alloc (.cells #[.slice b ys.length d] 48)).alloc (.cells #[.int .i64 f, .int .i64 t] 37)).frozen? ⟨w.heap.size + 1, 0, none⟩ = false := by simp [go_sem]
  have hz2 : (((w.alloc (.cells #[.slice a xs.length c] 48)).alloc (.cells #[.slice b ys.length d] 48)).alloc (.cells #[.int .i64 f, .int .i64 t] 37)).frozen? ⟨w.heap.size + 1 + 1, 0, none⟩ = false := by simp [go_sem]
  have hz3 : (((w.alloc (.cells #[.slice a xs.length c] 48)).alloc (.cells #[.slice b ys.length d] 48)).alloc (.cells #[.int .i64 f, .int .i64 t] 37)).frozen? ⟨w.heap.size + 1 + 1, 1, none⟩ = false := by simp [go_sem]
  go_enter Try.func45, Try.ntmps45
  go_wp2_with fail
  refine (spec_l02Ok w.heap.size a c xs _ hc0 (hx.kept hb1.out) (small hn)).mono ?_
  rintro e w2 ⟨rfl, rfl⟩
  cases hv : validCardL xs
  · have hf := Lib.hid (cf_v1 ys f t hv)
    go_wp2_with fail
    go_ret2
    exact ⟨by rw [hf.out.1, hf.out.2]; rfl, hb1.out⟩
  go_wp2_with fail
  refine (spec_l02Ok (w.heap.size + 1) b d ys _ hc1 (hy.kept hb1.out) (small hn2)).mono ?_
  rintro e w3 ⟨rfl, rfl⟩
  cases hv2 : validCardL ys
  · have hf := Lib.hid (cf_v2 xs f t hv2)
    go_wp2_with fail
    go_ret2
    exact ⟨by rw [hf.out.1, hf.out.2]; rfl, hb1.out⟩
  go_wp2_with fail
  generalize hWW : (((w.alloc (.cells #[.slice a xs.length c] 48)).alloc (.cells #[.slice b ys.length d] 48)).alloc (.cells #[.int .i64 f, .int .i64 t] 37)) = w3 at *
  clear hWW
  have hb3 := hb1
  have hf0 : w3.frozen? ⟨w.heap.size, 0, none⟩ = false := hz0
  have hf1 : w3.frozen? ⟨w.heap.size + 1, 0, none⟩ = false := hz1
  have hf2 : w3.frozen? ⟨w.heap.size + 1 + 1, 0, none⟩ = false := hz2
  have hf3 : w3.frozen? ⟨w.heap.size + 1 + 1, 1, none⟩ = false := hz3
  refine (spec_l02Field _ _ _ _).mono ?_
  rintro e w5 ⟨rfl, hb⟩
  (have hc0 := keep (p := ⟨w.heap.size, 0, none⟩) (v := .slice a xs.length c) hb (by simp [go_sem, *]); have hf0 := keepf (p := ⟨w.heap.size, 0, none⟩) (v := .slice a xs.length c) hb (by simp [go_sem, *]) (by simp [go_sem, *]); have hl0 := World.block_lt_of_cell? _ _ hc0; have hc1 := keep (p := ⟨w.heap.size + 1, 0, none⟩) (v := .slice b ys.length d) hb (by simp [go_sem, *]); have hf1 := keepf (p := ⟨w.heap.size + 1, 0, none⟩) (v := .slice b ys.length d) hb (by simp [go_sem, *]) (by simp [go_sem, *]); have hl1 := World.block_lt_of_cell? _ _ hc1; have hc2 := keep (p := ⟨w.heap.size + 1 + 1, 0, none⟩) (v := .int .i64 f) hb (by simp [go_sem, *]); have hf2 := keepf (p := ⟨w.heap.size + 1 + 1, 0, none⟩) (v := .int .i64 f) hb (by simp [go_sem, *]) (by simp [go_sem, *]); have hl2 := World.block_lt_of_cell? _ _ hc2; have hc3 := keep (p := ⟨w.heap.size + 1 + 1, 1, none⟩) (v := .int .i64 t) hb (by simp [go_sem, *]); have hf3 := keepf (p := ⟨w.heap.size + 1 + 1, 1, none⟩) (v := .int .i64 t) hb (by simp [go_sem, *]) (by simp [go_sem, *]); have hl3 := World.block_lt_of_cell? _ _ hc3)
  have hb5 := Lib.hid (bthen hb3.out hb)
  clear hb
  cases hq : fieldB f t xs.length
  · have hf := Lib.hid (cf_f1 hv hv2 hq)
    go_wp2_with fail
    go_ret2
    exact ⟨by rw [hf.out.1, hf.out.2]; rfl, hb5.out⟩
  go_wp2_with fail
  refine (spec_l02Field _ _ _ _).mono ?_
  rintro e w7 ⟨rfl, hb⟩
  (have hc0 := keep (p := ⟨w.heap.size, 0, none⟩) (v := .slice a xs.length c) hb (by simp [go_sem, *]); have hf0 := keepf (p := ⟨w.heap.size, 0, none⟩) (v := .slice a xs.length c) hb (by simp [go_sem, *]) (by simp [go_sem, *]); have hl0 := World.block_lt_of_cell? _ _ hc0; have hc1 := keep (p := ⟨w.heap.size + 1, 0, none⟩) (v := .slice b ys.length d) hb (by simp [go_sem, *]); have hf1 := keepf (p := ⟨w.heap.size + 1, 0, none⟩) (v := .slice b ys.length d) hb (by simp [go_sem, *]) (by simp [go_sem, *]); have hl1 := World.block_lt_of_cell? _ _ hc1; have hc2 := keep (p := ⟨w.heap.size + 1 + 1, 0, none⟩) (v := .int .i64 f) hb (by simp [go_sem, *]); have hf2 := keepf (p := ⟨w.heap.size + 1 + 1, 0, none⟩) (v := .int .i64 f) hb (by simp [go_sem, *]) (by simp [go_sem, *]); have hl2 := World.block_lt_of_cell? _ _ hc2; have hc3 := keep (p := ⟨w.heap.size + 1 + 1, 1, none⟩) (v := .int .i64 t) hb (by simp [go_sem, *]); have hf3 := keepf (p := ⟨w.heap.size + 1 + 1, 1, none⟩) (v := .int .i64 t) hb (by simp [go_sem, *]) (by simp [go_sem, *]); have hl3 := World.block_lt_of_cell? _ _ hc3)
  have hb7 := Lib.hid (bthen hb5.out hb)
  clear hb
  cases hq2 : fieldB f t ys.length
  · have hf := Lib.hid (cf_f2 hv hv2 hq2)
    go_wp2_with fail
    go_ret2
    exact ⟨by rw [hf.out.1, hf.out.2]; rfl, hb7.out⟩
  go_wp2_with fail
  refine (spec_l03Key w.heap.size a c xs f t _ hc0 (hx.kept hb7.out) hn hcap hq).mono ?_
  rintro e w8 ⟨rfl, hb⟩
  (have hc0 := keep (p := ⟨w.heap.size, 0, none⟩) (v := .slice a xs.length c) hb (by simp [go_sem, *]); have hf0 := keepf (p := ⟨w.heap.size, 0, none⟩) (v := .slice a xs.length c) hb (by simp [go_sem, *]) (by simp [go_sem, *]); have hl0 := World.block_lt_of_cell? _ _ hc0; have hc1 := keep (p := ⟨w.heap.size + 1, 0, none⟩) (v := .slice b ys.length d) hb (by simp [go_sem, *]); have hf1 := keepf (p := ⟨w.heap.size + 1, 0, none⟩) (v := .slice b ys.length d) hb (by simp [go_sem, *]) (by simp [go_sem, *]); have hl1 := World.block_lt_of_cell? _ _ hc1; have hc2 := keep (p := ⟨w.heap.size + 1 + 1, 0, none⟩) (v := .int .i64 f) hb (by simp [go_sem, *]); have hf2 := keepf (p := ⟨w.heap.size + 1 + 1, 0, none⟩) (v := .int .i64 f) hb (by simp [go_sem, *]) (by simp [go_sem, *]); have hl2 := World.block_lt_of_cell? _ _ hc2; have hc3 := keep (p := ⟨w.heap.size + 1 + 1, 1, none⟩) (v := .int .i64 t) hb (by simp [go_sem, *]); have hf3 := keepf (p := ⟨w.heap.size + 1 + 1, 1, none⟩) (v := .int .i64 t) hb (by simp [go_sem, *]) (by simp [go_sem, *]); have hl3 := World.block_lt_of_cell? _ _ hc3)
  have hb8 := Lib.hid (bthen hb7.out hb)
  clear hb
  go_wp2_with fail
  refine (spec_l03Key (w.heap.size + 1) b d ys f t _ hc1 (hy.kept hb8.out) hn2 hcap2 hq2).mono ?_
  rintro e w9 ⟨rfl, hb⟩
  have hb9 := Lib.hid (bthen hb8.out hb)
  clear hb
  cases hl : legalL (partL xs f t)
  · have hf := Lib.hid (cf_l1 hv hv2 hq hq2 hl)
    go_wp2_with fail
    go_ret2
    exact ⟨by rw [hf.out.1, hf.out.2]; rfl, hb9.out⟩
  cases hl2 : legalL (partL ys f t)
  · have hf := Lib.hid (cf_l2 hv hv2 hq hq2 hl2)
    go_wp2_with fail
    go_ret2
    exact ⟨by rw [hf.out.1, hf.out.2]; rfl, hb9.out⟩
  have hf := Lib.hid (cf_ok hv hv2 hq hq2 hl hl2)
  have hco := Lib.hid (cmp_or hl hl2)
  have hs1 := Lib.hid (textOr_size hl)
  have hs2 := Lib.hid (textOr_size hl2)
  have hp1 := Lib.hid (partL_length hq)
  have hp2 := Lib.hid (partL_length hq2)
  have hps := Lib.hid (partL_small f t hn)
  go_wp2_with fail
  refine (spec_l03Compare _ _ _ (by rw [hs1.out]; exact hps.out) (by rw [hs1.out, hs2.out, hp1.out, hp2.out])).mono ?_
  rintro e w10 ⟨rfl, rfl⟩
  rw [hco.out]
  go_wp2_with fail
  go_ret2
  exact ⟨by rw [hf.out.1, hf.out.2]; rfl, hb9.out⟩
end Go.Proofs.Ytdjggbccdjbcoaa
