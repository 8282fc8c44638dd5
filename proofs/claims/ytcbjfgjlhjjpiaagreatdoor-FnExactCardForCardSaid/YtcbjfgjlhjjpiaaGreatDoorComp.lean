/- The walks of the functions that compare fields of cards: what each returns, and that memory has at most new blocks. -/
import Derived.Test.YtcbjfgjlhjjpiaaGreatDoorField
import Derived.Test.YtcbjfgjlhjjpiaaGreatDoorRead
import Derived.Deep.RegionWith
namespace Go.Proofs.YtcbjfgjlhjjpiaaGreatDoor
open Go.RowKit
set_option maxRecDepth 100000
set_option linter.unusedVariables false
set_option linter.unusedSimpArgs false
set_option linter.unnecessarySimpa false

def sgnI (p q : Int) : Int := if p < q then -1 else 1
def cmpI (xs ys : List Int) : Int := match (xs.zip ys).find? (fun p => !(rankM p.1 == rankM p.2)) with | some p => sgnI (rankM p.1) (rankM p.2) | none => 0
def cmpC (l r : List UInt8) : Int := match (l.zip r).find? (fun p => !(rankC p.1.toNat == rankC p.2.toNat)) with | some p => sgnI (rankC p.1.toNat) (rankC p.2.toNat) | none => 0
theorem rankC_of {m : Int} (h : 0 ≤ rankM m) : rankC (chU m).toNat = rankM m := by
  obtain ⟨k, hk⟩ := Int.eq_ofNat_of_zero_le h
  have hlt : k < 40 := by have := rankM_ge m; omega
  rw [chU_is h, hk]
  exact rankC_hit hlt (char_at hk hlt).symm
theorem cmp_text : ∀ (xs ys : List Int), legalL xs = true → legalL ys = true → cmpC (textL xs) (textL ys) = cmpI xs ys
  | [], ys, _, _ => by simp [cmpC, cmpI, textL]
  | x :: r, [], _, _ => by simp [cmpC, cmpI, textL]
  | x :: r, y :: s, h1, h2 => by
    simp only [legalL, List.all_cons, Bool.and_eq_true, legalB, decide_eq_true_eq] at h1 h2
    have ih := cmp_text r s h1.2 h2.2
    have e1 := rankC_of h1.1
    have e2 := rankC_of h2.1
    unfold cmpC cmpI textL at *
    simp only [List.map_cons, List.zip_cons_cons, List.find?_cons, e1, e2]
    by_cases he : rankM x = rankM y
    · simp only [he, beq_self_eq_true, Bool.not_true]; exact ih
    · have : (!(rankM x == rankM y)) = true := by simpa using he
      rw [this]
      simp only [e1, e2]
theorem zip_at {α β : Type} {xs : List α} {ys : List β} {k : Nat} {x : α} {y : β} (hx : xs[k]? = some x) (hy : ys[k]? = some y) : (xs.zip ys)[k]? = some (x, y) := by
  simp [List.getElem?_zip_eq_some, hx, hy]
theorem cmp_hit {xs ys : List Int} {k : Nat} {x y : Int} (hx : xs[k]? = some x) (hy : ys[k]? = some y) (h : ((xs.zip ys).take k).all (fun p => rankM p.1 == rankM p.2) = true) (hne : ¬ rankM x = rankM y) : cmpI xs ys = sgnI (rankM x) (rankM y) := by
  have := (find_hit (p := fun p : Int × Int => !(rankM p.1 == rankM p.2)) (zip_at hx hy) (by simpa using h) (by simpa using hne)).2
  unfold cmpI; rw [this]
theorem cmp_none {xs ys : List Int} {k : Nat} (hk : xs.length ≤ k) (h : ((xs.zip ys).take k).all (fun p => rankM p.1 == rankM p.2) = true) : cmpI xs ys = 0 := by
  have := (find_none (p := fun p : Int × Int => !(rankM p.1 == rankM p.2)) (l := xs.zip ys) (k := k) (by rw [List.length_zip]; omega) (by simpa using h)).2
  unfold cmpI; rw [this]
theorem cmpC_hit {xs ys : List UInt8} {k : Nat} {x y : UInt8} (hx : xs[k]? = some x) (hy : ys[k]? = some y) (h : ((xs.zip ys).take k).all (fun p => rankC p.1.toNat == rankC p.2.toNat) = true) (hne : ¬ rankC x.toNat = rankC y.toNat) : cmpC xs ys = sgnI (rankC x.toNat) (rankC y.toNat) := by
  have := (find_hit (p := fun p : UInt8 × UInt8 => !(rankC p.1.toNat == rankC p.2.toNat)) (zip_at hx hy) (by simpa using h) (by simpa using hne)).2
  unfold cmpC; rw [this]
theorem cmpC_none {xs ys : List UInt8} {k : Nat} (hk : xs.length ≤ k) (h : ((xs.zip ys).take k).all (fun p => rankC p.1.toNat == rankC p.2.toNat) = true) : cmpC xs ys = 0 := by
  have := (find_none (p := fun p : UInt8 × UInt8 => !(rankC p.1.toNat == rankC p.2.toNat)) (l := xs.zip ys) (k := k) (by rw [List.length_zip]; omega) (by simpa using h)).2
  unfold cmpC; rw [this]
theorem sgn_lt {p q : Int} (h : p < q) : sgnI p q = -1 := by unfold sgnI; rw [if_pos h]
theorem sgn_gt {p q : Int} (h : q < p) : sgnI p q = 1 := by unfold sgnI; rw [if_neg (by omega)]
theorem partL_eq {xs : List Int} {f t : Nat} (h : fieldB (f : Int) (t : Int) xs.length = true) : (partL xs (f : Int) (t : Int)).length = t - f := by rw [partL_length h]; omega
set_option maxHeartbeats 400000 in
theorem impl_hasField (a : Option Addr) (c : Nat) (xs : List Int) (f t : Int) (w : World) (hx : RI w a xs) (hn : xs.length ≤ 1048576) (hcap : xs.length ≤ c) (hq : fieldB f t xs.length = true) :
    Calls Tryz.prog 158 #[.agg #[.slice a xs.length c], .agg #[.int .i64 f, .int .i64 t]] w fun e w' => e = .returned (.bool (legalL (partL xs f t))) ∧ Below w.heap.size w w' := by
  have hb2 := Lib.hid (below_alloc2 w (.cells #[.slice a xs.length c] 30) (.cells #[.int .i64 f, .int .i64 t] 46))
  obtain ⟨h1, h2, h3⟩ := fieldB_yes hq
  obtain ⟨x, hx0⟩ := get_some (l := xs) (k := 0) (by omega)
  obtain ⟨b1, o1, rfl, hc1⟩ := hx.at hx0
  obtain ⟨f, rfl⟩ := Int.eq_ofNat_of_zero_le h1
  obtain ⟨t, rfl⟩ := Int.eq_ofNat_of_zero_le (show 0 ≤ t by omega)
  have h2' : f ≤ t := by omega
  have h3' : t ≤ xs.length := by omega
  have h4' : t ≤ c := by omega
  clear hx0 hc1
  have hl := partL_eq hq
  have hc := impl_hasCharacters (some ⟨b1, o1 + f, Option.none⟩) (c - f) (partL xs f t) _ (ri_sub (hx.kept hb2.out) f ((t : Int) - f).toNat) (partL_small _ _ (small hn))
  rw [hl] at hc
  have hc' := Lib.hid hc
  clear hc hl
  go_enter Tryz.func158, Tryz.ntmps158
  go_wp2_with (go_at_call 185; ((with_reducible refine hc'.out.mono ?_); rintro e w' ⟨rfl, hb⟩))
  go_ret
  exact ⟨rfl, bthen hb2.out hb⟩
def cmpCode (xs ys : List Int) (f t : Int) : Int := if validCardL xs && validCardL ys then (if fieldB f t xs.length && fieldB f t ys.length then (if legalL (partL xs f t) && legalL (partL ys f t) then 0 else 8) else 2) else 1
def cmpFI (xs ys : List Int) (f t : Int) : Int := if cmpCode xs ys f t == 0 then cmpI (partL xs f t) (partL ys f t) else 0
theorem cf_not {xs ys : List Int} {f t : Int} {k : Int} (h : cmpCode xs ys f t = k) (hk : (k == 0) = false) : cmpFI xs ys f t = 0 ∧ cmpCode xs ys f t = k := ⟨by unfold cmpFI; rw [h, hk]; rfl, h⟩
theorem cf_v1 {xs : List Int} (ys : List Int) (f t : Int) (h : validCardL xs = false) : cmpFI xs ys f t = 0 ∧ cmpCode xs ys f t = 1 := cf_not (by unfold cmpCode; rw [h]; rfl) rfl
theorem cf_v2 (xs : List Int) {ys : List Int} (f t : Int) (h : validCardL ys = false) : cmpFI xs ys f t = 0 ∧ cmpCode xs ys f t = 1 := cf_not (by unfold cmpCode; rw [h]; simp) rfl
theorem cf_f1 {xs ys : List Int} {f t : Int} (h1 : validCardL xs = true) (h2 : validCardL ys = true) (h : fieldB f t xs.length = false) : cmpFI xs ys f t = 0 ∧ cmpCode xs ys f t = 2 := cf_not (by unfold cmpCode; rw [h1, h2, h]; rfl) rfl
theorem cf_f2 {xs ys : List Int} {f t : Int} (h1 : validCardL xs = true) (h2 : validCardL ys = true) (h : fieldB f t ys.length = false) : cmpFI xs ys f t = 0 ∧ cmpCode xs ys f t = 2 := cf_not (by unfold cmpCode; rw [h1, h2, h]; simp) rfl
theorem cf_l1 {xs ys : List Int} {f t : Int} (h1 : validCardL xs = true) (h2 : validCardL ys = true) (h3 : fieldB f t xs.length = true) (h4 : fieldB f t ys.length = true) (h : legalL (partL xs f t) = false) : cmpFI xs ys f t = 0 ∧ cmpCode xs ys f t = 8 := cf_not (by unfold cmpCode; rw [h1, h2, h3, h4, h]; rfl) rfl
theorem cf_l2 {xs ys : List Int} {f t : Int} (h1 : validCardL xs = true) (h2 : validCardL ys = true) (h3 : fieldB f t xs.length = true) (h4 : fieldB f t ys.length = true) (h : legalL (partL ys f t) = false) : cmpFI xs ys f t = 0 ∧ cmpCode xs ys f t = 8 := cf_not (by unfold cmpCode; rw [h1, h2, h3, h4, h]; simp) rfl
theorem cf_ok {xs ys : List Int} {f t : Int} (h1 : validCardL xs = true) (h2 : validCardL ys = true) (h3 : fieldB f t xs.length = true) (h4 : fieldB f t ys.length = true) (h5 : legalL (partL xs f t) = true) (h6 : legalL (partL ys f t) = true) : cmpFI xs ys f t = cmpI (partL xs f t) (partL ys f t) ∧ cmpCode xs ys f t = 0 := by
  have h : cmpCode xs ys f t = 0 := by unfold cmpCode; rw [h1, h2, h3, h4, h5, h6]; rfl
  exact ⟨by unfold cmpFI; rw [h]; rfl, h⟩
end Go.Proofs.YtcbjfgjlhjjpiaaGreatDoor
