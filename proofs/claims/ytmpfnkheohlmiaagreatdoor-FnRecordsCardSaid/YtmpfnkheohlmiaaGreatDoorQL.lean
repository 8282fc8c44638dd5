/- The walk of impl.ItemTotal: what it returns, and that memory has at most new blocks. The walks of spec.l04Deck and spec.ItemTotal: what they return, and that memory has at most new blocks. The walks of the functions that read all items of a card. -/
import Derived.Test.YtmpfnkheohlmiaaGreatDoorQK
import Derived.Test.YtmpfnkheohlmiaaGreatDoorQD
import Derived.Laws.AppendOwn
namespace Go.Proofs.YtmpfnkheohlmiaaGreatDoor
open Go.RowKit
set_option maxRecDepth 100000
set_option linter.unusedVariables false
set_option linter.unusedSimpArgs false
set_option linter.unnecessarySimpa false

theorem RD.x {w : World} {a : Option Addr} {xss : List (List Int)} (h : RD w a xss) : Go.Proofs.YtmpfnkheohlmiaaGreatDoor.RDx w a xss := fun k x hk => by
  obtain ⟨b, o, a', c', h1, h2, h3, _, _⟩ := h.at hk
  exact ⟨b, o, a', c', h1, h2, h3⟩
theorem deckSz_all {xss : List (List Int)} (h : deckSz xss ≤ 1048576) : ∀ x ∈ xss, x.length ≤ 1048576 := fun x hx => by
  obtain ⟨k, hk⟩ := List.getElem?_of_mem hx
  have := deckSz_at hk
  omega
theorem all_bad {p : List Int → Bool} {xss : List (List Int)} {k : Nat} {y : List Int} (h : xss[k]? = some y) (hp : p y = false) : xss.all p = false := by
  rw [List.all_eq_false]; exact ⟨y, List.mem_of_getElem? h, by simp [hp]⟩
theorem all_more {p : List Int → Bool} {xss : List (List Int)} {k : Nat} {y : List Int} (h : xss[k]? = some y) (ha : (xss.take k).all p = true) (hp : p y = true) : (xss.take (k + 1)).all p = true := by
  rw [List.take_add_one, h]; simp [ha, hp]
end Go.Proofs.YtmpfnkheohlmiaaGreatDoor
namespace Go.Proofs.YtmpfnkheohlmiaaGreatDoor
open Go.RowKit
set_option maxRecDepth 100000
set_option linter.unusedVariables false
set_option linter.unusedSimpArgs false
set_option linter.unnecessarySimpa false

def dkC (wd : Int) (xs : List Itm) (xss : List (List Int)) (nm : ByteArray) : Int := if layI wd xs xss (validDeckL xss) == 0 then (if findI xs nm < 0 then 3 else 0) else layI wd xs xss (validDeckL xss)
def dkK (wd : Int) (xs : List Itm) (xss : List (List Int)) (nm : ByteArray) : Int := if layI wd xs xss (validDeckL xss) == 0 then (if findI xs nm < 0 then 0 else findI xs nm) else 0
theorem dk_no {wd : Int} {xs : List Itm} {xss : List (List Int)} (nm : ByteArray) {k : Int} (h : layI wd xs xss (validDeckL xss) = k) (hk : (k == 0) = false) : dkK wd xs xss nm = 0 ∧ dkC wd xs xss nm = k := by unfold dkK dkC; rw [h, hk]; exact ⟨rfl, rfl⟩
theorem dk_3 {wd : Int} {xs : List Itm} {xss : List (List Int)} {nm : ByteArray} (h : layI wd xs xss (validDeckL xss) = 0) (h2 : findI xs nm < 0) : dkK wd xs xss nm = 0 ∧ dkC wd xs xss nm = 3 := by unfold dkK dkC; rw [h]; simp [h2]
theorem dk_ok {wd : Int} {xs : List Itm} {xss : List (List Int)} {nm : ByteArray} (h : layI wd xs xss (validDeckL xss) = 0) (h2 : ¬ findI xs nm < 0) : dkK wd xs xss nm = findI xs nm ∧ dkC wd xs xss nm = 0 := by unfold dkK dkC; rw [h]; simp [h2]
end Go.Proofs.YtmpfnkheohlmiaaGreatDoor
namespace Go.Proofs.YtmpfnkheohlmiaaGreatDoor
open Go.RowKit
set_option maxRecDepth 100000
set_option linter.unusedVariables false
set_option linter.unusedSimpArgs false
set_option linter.unnecessarySimpa false

theorem pow_kept {w w' : World} (h : Pow10 w) (hb : Below w.heap.size w w') : Pow10 w' := TabIs.kept h hb
def itemOk (ys : List Int) (x : Itm) : Bool := (valS x ys).2
def recL (xs : List Itm) (ys : List Int) (k : Nat) : List ByteArray := (xs.take k).map fun x => (valS x ys).1
theorem recL_zero (xs : List Itm) (ys : List Int) : recL xs ys 0 = [] := rfl
theorem recL_succ {xs : List Itm} {ys : List Int} {k : Nat} {x : Itm} (h : xs[k]? = some x) : recL xs ys (k + 1) = recL xs ys k ++ [(valS x ys).1] := by
  unfold recL; rw [List.take_add_one, h]; simp
theorem recL_len (xs : List Itm) (ys : List Int) (k : Nat) : (recL xs ys k).length ≤ xs.length := by
  unfold recL; rw [List.length_map, List.length_take]; omega
def recCode (wd : Int) (xs : List Itm) (ys : List Int) : Int :=
  if layI wd xs [ys] (validCardL ys) == 0 then (if xs.all (itemOk ys) then 0 else 8) else layI wd xs [ys] (validCardL ys)
def recR (wd : Int) (xs : List Itm) (ys : List Int) : List ByteArray := if recCode wd xs ys == 0 then recL xs ys xs.length else []
theorem rec_not {wd : Int} {xs : List Itm} {ys : List Int} {k : Int} (h : recCode wd xs ys = k) (hk : (k == 0) = false) : recR wd xs ys = [] ∧ recCode wd xs ys = k := ⟨by unfold recR; rw [h, hk]; rfl, h⟩
theorem rec_lay {wd : Int} {xs : List Itm} {ys : List Int} (h : (layI wd xs [ys] (validCardL ys) == 0) = false) : recR wd xs ys = [] ∧ recCode wd xs ys = layI wd xs [ys] (validCardL ys) := rec_not (by unfold recCode; rw [h]; rfl) h
theorem rec_8 {wd : Int} {xs : List Itm} {ys : List Int} (h : layI wd xs [ys] (validCardL ys) = 0) (h2 : xs.all (itemOk ys) = false) : recR wd xs ys = [] ∧ recCode wd xs ys = 8 := rec_not (by unfold recCode; rw [h, h2]; rfl) rfl
theorem rec_ok {wd : Int} {xs : List Itm} {ys : List Int} (h : layI wd xs [ys] (validCardL ys) = 0) (h2 : xs.all (itemOk ys) = true) : recR wd xs ys = recL xs ys xs.length ∧ recCode wd xs ys = 0 := by
  have h0 : recCode wd xs ys = 0 := by unfold recCode; rw [h, h2]; rfl
  exact ⟨by unfold recR; rw [h0]; rfl, h0⟩
theorem recR_len (wd : Int) (xs : List Itm) (ys : List Int) (h : itemsSz xs ≤ 1048576) : (recR wd xs ys).length ≤ 1048576 := by
  have := recL_len xs ys xs.length
  have := itemsSz_len xs
  unfold recR; split
  · omega
  · simp
theorem items_bad {ys : List Int} {xs : List Itm} {k : Nat} {x : Itm} (h : xs[k]? = some x) (hp : itemOk ys x = false) : xs.all (itemOk ys) = false := by
  rw [List.all_eq_false]; exact ⟨x, List.mem_of_getElem? h, by simp [hp]⟩
theorem items_more {ys : List Int} {xs : List Itm} {k : Nat} {x : Itm} (h : xs[k]? = some x) (ha : (xs.take k).all (itemOk ys) = true) (hp : itemOk ys x = true) : (xs.take (k + 1)).all (itemOk ys) = true := by
  rw [List.take_add_one, h]; simp [ha, hp]
/-- a valid card under a layout of its width -/
theorem fit_card {wd : Int} {xs : List Itm} {ys : List Int} {x : Itm} (h : layI wd xs [ys] (validCardL ys) = 0) (hx : x ∈ xs) :
    validCardL ys = true ∧ (ys.length : Int) = wd ∧ fieldB x.fr x.to ys.length = true ∧ (x.kind = 2 → x.to - x.fr ≤ 12) := by
  obtain ⟨h1, h2, h3⟩ := lay_zero h
  have h7 := h3 ys [] rfl
  have h8 := validLay_item h1 hx
  obtain ⟨q1, q2, q3⟩ := itemB_field h8
  refine ⟨h2, h7, fieldB_ok q1 q2 (by omega), fun hk => ?_⟩
  unfold itemB kindB at h8
  simp only [Bool.and_eq_true, Bool.or_eq_true, beq_iff_eq, decide_eq_true_eq] at h8
  omega
theorem rdx_one {w : World} {B : Nat} {b : Option Addr} {d : Nat} {ys : List Int} (hc : w.cell? ⟨B, 0, none⟩ = some (.slice b ys.length d)) (hy : RI w b ys) : RDx w (some ⟨B, 0, none⟩) [ys] := fun k x hk => by
  cases k with
  | zero => obtain rfl := Option.some.inj hk; exact ⟨B, 0, b, d, rfl, hc, hy⟩
  | succ k => simp at hk
set_option maxHeartbeats 1000000 in
theorem spec_l04Fits (B : Nat) (wd : Int) (a : Option Addr) (c : Nat) (xs : List Itm) (B2 : Nat) (b : Option Addr) (d : Nat) (ys : List Int) (w : World) (hca : w.cell? ⟨B, 0, none⟩ = some (.int .i64 wd)) (hcb : w.cell? ⟨B, 1, none⟩ = some (.slice a xs.length c)) (hcc : w.cell? ⟨B2, 0, none⟩ = some (.slice b ys.length d)) (hx : RT w a xs) (hy : RI w b ys) (hn : itemsSz xs ≤ 1048576) (hn2 : ys.length ≤ 1048576) :
    Calls Tryz.prog 42 #[.pointer (some ⟨B, 0, none⟩), .pointer (some ⟨B2, 0, none⟩)] w fun e w' => e = .returned (.int .i64 (layI wd xs [ys] (validCardL ys))) ∧ Below w.heap.size w w' := by
  have hok : ∀ W : World, Below w.heap.size w W → Calls Tryz.prog 34 #[.pointer (some ⟨B, 0, none⟩)] W fun e w' => e = .returned (.bool (validLayB wd xs)) ∧ Below W.heap.size W w' := fun W hW => spec_l04Ok B wd a c xs W (keep hW hca) (keep hW hcb) (hx.kept hW) hn
  have hok2 : ∀ W : World, Below w.heap.size w W → Calls Tryz.prog 96 #[.pointer (some ⟨B2, 0, none⟩)] W fun e w' => e = .returned (.bool (validCardL ys)) ∧ W = w' := fun W hW => spec_l02Ok B2 b d ys W (keep hW hcc) (hy.kept hW) (small hn2)
  cases hv : validLayB wd xs
  · have hf := Lib.hid (lay_1 [ys] (validCardL ys) hv)
    rw [hv] at hok
    go_enter Tryz.func42, Tryz.ntmps42
    go_wp2_with fail
    refine (hok _ (Below.refl _ _)).mono ?_
    rintro e w2 ⟨rfl, hb⟩
    go_wp2_with fail
    go_ret
    exact ⟨ret_int (by rw [hf.out]), hb⟩
  rw [hv] at hok
  cases hv2 : validCardL ys
  · have hf := Lib.hid (lay_2 wd xs [ys])
    rw [hv2] at hok2
    go_enter Tryz.func42, Tryz.ntmps42
    go_wp2_with fail
    refine (hok _ (Below.refl _ _)).mono ?_
    rintro e w2 ⟨rfl, hb⟩
    go_wp2_with fail
    refine (hok2 _ hb).mono ?_
    rintro e w3 ⟨rfl, rfl⟩
    go_wp2_with fail
    go_ret
    exact ⟨ret_int (by rw [hf.out]), hb⟩
  rw [hv2] at hok2
  by_cases he : (ys.length : Int) = wd
  · have hf := Lib.hid (lay_ok (r := []) hv he)
    have hne : ((ys.length : Int) != wd) = false := by simp [he]
    clear he
    go_enter Tryz.func42, Tryz.ntmps42
    go_wp2_with fail
    refine (hok _ (Below.refl _ _)).mono ?_
    rintro e w2 ⟨rfl, hb⟩
    go_wp2_with fail
    refine (hok2 _ hb).mono ?_
    rintro e w3 ⟨rfl, rfl⟩
    have k0 := keep hb hca
    have k1 := keep hb hcc
    go_wp2_with fail
    first | go_quiet (fail) | fail
    go_wp2_with fail
    go_ret
    exact ⟨ret_int (by rw [hf.out]), by first | exact below_drewN hb _ | exact hb⟩
  · have hf := Lib.hid (lay_not (r := []) hv he)
    have hne : ((ys.length : Int) != wd) = true := by simp [he]
    clear he
    go_enter Tryz.func42, Tryz.ntmps42
    go_wp2_with fail
    refine (hok _ (Below.refl _ _)).mono ?_
    rintro e w2 ⟨rfl, hb⟩
    go_wp2_with fail
    refine (hok2 _ hb).mono ?_
    rintro e w3 ⟨rfl, rfl⟩
    have k0 := keep hb hca
    have k1 := keep hb hcc
    go_wp2_with fail
    first | go_quiet (fail) | fail
    go_wp2_with fail
    go_ret
    exact ⟨ret_int (by rw [hf.out]), by first | exact below_drewN hb _ | exact hb⟩
set_option maxHeartbeats 2000000 in
theorem spec_RecordOf (wd : Int) (a : Option Addr) (c : Nat) (xs : List Itm) (b : Option Addr) (d : Nat) (ys : List Int) (w : World) (hx : RT w a xs) (hy : RI w b ys) (hn : itemsSz xs ≤ 1048576) (hcap : xs.length ≤ c) (hn2 : ys.length ≤ 1048576) (hcap2 : ys.length ≤ d) :
    Calls Tryz.prog 10 #[.agg #[.int .i64 wd, .slice a xs.length c], .agg #[.slice b ys.length d]] w fun e w' => ∃ a' c', e = .returned (.tuple #[.slice a' (recR wd xs ys).length c', .int .i64 (recCode wd xs ys)]) ∧ w'.ownsRow w.heap.size 9 1 (.slice a' (recR wd xs ys).length c') (recR wd xs ys).length ((recR wd xs ys).map Value.string) ∧ Below w.heap.size w w' := by
  obtain ⟨i0, hi, hz0, hz1, hz2⟩ := info_parts Tryz.info_string
  have hb1 := Lib.hid (below_alloc2 w (.cells #[.int .i64 wd, .slice a xs.length c] 26) (.cells #[.slice b ys.length d] 32))
  have hc0 : ((w.alloc (.cells #[.int .i64 wd, .slice a xs.length c] 26)).alloc (.cells #[.slice b ys.length d] 32)).cell? ⟨w.heap.size, 0, none⟩ = some (.int .i64 wd) := by simp [go_sem]
  have hc1 : ((w.alloc (.cells #[.int .i64 wd, .slice a xs.length c] 26)).alloc (.cells #[.slice b ys.length d] 32)).cell? ⟨w.heap.size, 1, none⟩ = some (.slice a xs.length c) := by simp [go_sem]
  have hc2 : ((w.alloc (.cells #[.int .i64 wd, .slice a xs.length c] 26)).alloc (.cells #[.slice b ys.length d] 32)).cell? ⟨w.heap.size + 1, 0, none⟩ = some (.slice b ys.length d) := by simp [go_sem]
  have hfit := Lib.hid (spec_l04Fits w.heap.size wd a c xs (w.heap.size + 1) b d ys _ hc0 hc1 hc2 (hx.kept hb1.out) (hy.kept hb1.out) hn hn2)
  cases hL : (layI wd xs [ys] (validCardL ys) == 0)
  · have hf := Lib.hid (rec_lay hL)
    have hne : (layI wd xs [ys] (validCardL ys) != 0) = true := by rw [bne, hL]; rfl
    clear hc0 hc1 hc2
    go_enter Tryz.func10, Tryz.ntmps10
    go_wp2_with fail
    refine hfit.out.mono ?_
    rintro e w2 ⟨rfl, hb⟩
    go_wp2_with fail
    go_ret2
    exact ⟨none, 0, by rw [hf.out.1, hf.out.2]; rfl, by rw [hf.out.1]; exact World.ownsRow_nil _ _ _ _, bthen hb1.out hb⟩
  have hL0 : layI wd xs [ys] (validCardL ys) = 0 := by simpa using hL
  rw [hL0] at hfit
  have hcards := Lib.hid (fun (x : Itm) (hxm : x ∈ xs) => fit_card hL0 hxm)
  have h8 := Lib.hid (fun h => rec_8 hL0 h)
  have h0 := Lib.hid (fun h => rec_ok hL0 h)
  have hxs := Lib.hid hx
  have hys := Lib.hid hy
  have hsz := itemsSz_len xs
  have hrl := recL_len xs ys
  clear hL hL0 hx hy
  generalize hN : xs.length = n at *
  have hN' := Lib.hid hN
  clear hN
  go_enter Tryz.func10, Tryz.ntmps10
  go_wp2_with fail
  refine hfit.out.mono ?_
  rintro e w2 ⟨rfl, hb⟩
  have hB2 := Lib.hid (bthen hb1.out hb)
  have z1 := keep hb hc1
  have z2 := keep hb hc2
  clear hb hc0 hc1 hc2 hfit
  have hs2 := hB2.out.size
  have hown0 := World.ownsRow_lit (base := w2.heap.size) (e := 9) (size := 1) w2 #[] 0 (Nat.le_refl _) (by simp [maxLen]) rfl
  go_wp2_with fail
  go_loopw [7, 8] (fun v i wr => ∃ (k : Nat) (a' : Option Addr) (c' : Nat), k ≤ n ∧ i = .int .i64 k ∧ v = .slice a' (recL xs ys k).length c' ∧ Hid ((xs.take k).all (itemOk ys) = true) ∧ wr.ownsRow w2.heap.size 9 1 (.slice a' (recL xs ys k).length c') (recL xs ys k).length ((recL xs ys k).map Value.string) ∧ Below w2.heap.size w2 wr) (fun _ i _ => n - (intOf i).toNat)
  case atStart => exact ⟨0, _, _, by omega, rfl, rfl, Lib.hid rfl, hown0, below_alloc _⟩
  case round =>
    obtain ⟨k, a3, c3, hk, rfl, rfl, hall, hown, hb⟩ := hrel
    have v1 := keep hb z1
    have v2 := keep hb z2
    have hBr := Lib.hid (bthen hB2.out hb)
    have hb' := Lib.hid hb
    clear hb
    by_cases hlt : k < n
    · obtain ⟨x, hxk⟩ := get_some (l := xs) (k := k) (by rw [hN'.out]; exact hlt)
      have hlt' : (k : Int) < (n : Int) := by omega
      obtain ⟨b1, o1, rfl, q0, q1, q2, q3⟩ := (hxs.out.kept hBr.out).at hxk
      obtain ⟨g1, g2, g3, g4⟩ := hcards.out x (List.mem_of_getElem? hxk)
      have hms := Lib.hid (valid_masks g1)
      have hval := Lib.hid (spec_l04Value b1 (o1 + k * 4) (w.heap.size + 1) 0 x b d ys wr q1 q2 q3 v2 (hys.out.kept hBr.out) hn2 hcap2 g3 g4 hms.out)
      have hs := Lib.hid (recL_succ (ys := ys) hxk)
      have hil := hrl k
      have hown' := Lib.hid (OV.of hown)
      have hbad := Lib.hid (fun h => items_bad (ys := ys) hxk h)
      have hmore := Lib.hid (fun h => items_more hxk hall.out h)
      have hio : Hid ((valS x ys).2 = itemOk ys x) := Lib.hid rfl
      clear hxk g1 g2 g3 g4 hown
      rw [hio.out] at hval
      generalize (valS x ys).1 = V at *
      cases hB : itemOk ys x
      · have hf := Lib.hid (h8.out (hbad.out hB))
        rw [hB] at hval
        go_wp2_with fail
        refine hval.out.mono ?_
        rintro e w3 ⟨rfl, hb3⟩
        go_wp2_with fail
        go_ret2
        exact ⟨none, 0, by rw [hf.out.1, hf.out.2]; rfl, by rw [hf.out.1]; exact World.ownsRow_nil _ _ _ _, bthen hBr.out hb3⟩
      · have hnx := hmore.out hB
        rw [hB] at hval
        go_wp2_with fail
        refine hval.out.mono ?_
        rintro e w3 ⟨rfl, hb3⟩
        have hown3 := ((hown'.out.kept hb3)).1
        have hbw3 := bthen hb'.out hb3
        clear hb3
        go_wp2_with (at_builtin; refine wpList_append_own _ rfl _ _ 27 rfl (w2.heap.size) 9 i0 (.string ⟨#[]⟩) 1 16 Tryz.underlying27 hi hz0 hz1 hz2 rfl (by decide) _ ((recL xs ys k).length) ((recL xs ys k).map Value.string) rfl (hown3.alloc _) ⟨_, 0, none⟩ 1 1 [.string V] rfl rfl (news_one _ _ _) (one_one rfl) (by (have hq0 := hil); simp only [maxLen]; omega) (by (have hq0 := hil); omega) (by (have hq0 := hbw3.size); simp only [World.size_alloc]; omega) ?_; intro v1 w1 hown1 hgrow1 _; have hbq := Lib.hid (app_below hbw3 hbw3.size hown3 (by first | exact Nat.le_refl _ | omega) hgrow1); obtain ⟨a1, c1, hv1, _, _⟩ := own_slice hown1; subst hv1; have hownq := Lib.hid hown1; clear hown1 hgrow1)
        go_roundw
        case rel => exact ⟨k + 1, a1, c1, by omega, by go_num, by rw [hs.out, List.length_append]; rfl, hnx, by rw [hs.out, List.length_append, List.map_append]; exact hownq.out, hbq.out⟩
        case measure => simp [intOf]; omega
    · obtain rfl : k = n := by omega
      have hf := Lib.hid (h0.out (by have := hall.out; rwa [List.take_of_length_le (by rw [hN'.out]; omega)] at this))
      go_wp2_with fail
      go_ret2
      exact ⟨a3, c3, by rw [hf.out.1, hf.out.2]; rfl, by rw [hf.out.1]; exact own_mono hown hs2, bthen hB2.out hb'.out⟩
set_option maxHeartbeats 2000000 in
theorem impl_RecordOf (wd : Int) (a : Option Addr) (c : Nat) (xs : List Itm) (b : Option Addr) (d : Nat) (ys : List Int) (w : World) (hx : RT w a xs) (hy : RI w b ys) (hn : itemsSz xs ≤ 1048576) (hcap : xs.length ≤ c) (hn2 : ys.length ≤ 1048576) (hcap2 : ys.length ≤ d) (ht : Pow10 w) :
    Calls Tryz.prog 9 #[.agg #[.int .i64 wd, .slice a xs.length c], .agg #[.slice b ys.length d]] w fun e w' => ∃ a' c', e = .returned (.tuple #[.slice a' (recR wd xs ys).length c', .int .i64 (recCode wd xs ys)]) ∧ w'.ownsRow w.heap.size 9 1 (.slice a' (recR wd xs ys).length c') (recR wd xs ys).length ((recR wd xs ys).map Value.string) ∧ Below w.heap.size w w' := by
  obtain ⟨i0, hi, hz0, hz1, hz2⟩ := info_parts Tryz.info_string
  have hb1 := Lib.hid (below_alloc2 w (.cells #[.int .i64 wd, .slice a xs.length c] 26) (.cells #[.slice b ys.length d] 32))
  have hlay : ∀ (W : World) (B cc : Nat), W.cell? ⟨B, 0, none⟩ = some (.slice b ys.length d) → Below w.heap.size w W → Calls Tryz.prog 39 #[.agg #[.int .i64 wd, .slice a xs.length c], .slice (some ⟨B, 0, none⟩) 1 cc, .bool (validCardL ys)] W fun e w' => e = .returned (.int .i64 (layI wd xs [ys] (validCardL ys))) ∧ Below W.heap.size W w' := fun W B cc hc hW => impl_layoutCode wd a c xs (some ⟨B, 0, none⟩) cc [ys] _ W (hx.kept hW) (rdx_one hc (hy.kept hW)) hn hcap (by simp) (fun x hx => by simp at hx; subst hx; exact hn2)
  have hcard : ∀ W : World, Below w.heap.size w W → Calls Tryz.prog 40 #[.agg #[.slice b ys.length d]] W fun e w' => e = .returned (.bool (validCardL ys)) ∧ Below W.heap.size W w' := fun W hW => impl_ValidCard b d ys W (hy.kept hW) (small hn2)
  cases hL : (layI wd xs [ys] (validCardL ys) == 0)
  · have hf := Lib.hid (rec_lay hL)
    have hne : (layI wd xs [ys] (validCardL ys) != 0) = true := by rw [bne, hL]; rfl
    generalize layI wd xs [ys] (validCardL ys) = L at *
    go_enter Tryz.func9, Tryz.ntmps9
    go_wp2_with fail
    have hc0 : ((w.alloc (.cells #[.int .i64 wd, .slice a xs.length c] 26)).alloc (.cells #[.slice b ys.length d] 32)).cell? ⟨w.heap.size, 0, none⟩ = some (.int .i64 wd) := by simp [go_sem]
    have hc1 : ((w.alloc (.cells #[.int .i64 wd, .slice a xs.length c] 26)).alloc (.cells #[.slice b ys.length d] 32)).cell? ⟨w.heap.size, 1, none⟩ = some (.slice a xs.length c) := by simp [go_sem]
    have hc2 : ((w.alloc (.cells #[.int .i64 wd, .slice a xs.length c] 26)).alloc (.cells #[.slice b ys.length d] 32)).cell? ⟨w.heap.size + 1, 0, none⟩ = some (.slice b ys.length d) := by simp [go_sem]
    generalize hW1 : ((w.alloc (.cells #[.int .i64 wd, .slice a xs.length c] 26)).alloc (.cells #[.slice b ys.length d] 32)) = W1 at *
    (first | go_region_held3 (fun W => Below W1.heap.size W1 W ∧ W.cell? ⟨w.heap.size, 0, none⟩ = some (.int .i64 wd) ∧ W.cell? ⟨w.heap.size, 1, none⟩ = some (.slice a xs.length c) ∧ W.cell? ⟨w.heap.size + 1, 0, none⟩ = some (.slice b ys.length d)) (first | exact held3 (below_drewN (Below.refl _ _) 1) hc0 hc1 hc2 | (rename Below W1.heap.size W1 _ ∧ _ => hH; refine held3 ?_ hc0 hc1 hc2; first | (refine bthen hH.1 ?_; assumption) | exact hH.1.alloc hH.1.size _)) (first | (go_at_call 40; ((with_reducible refine (hcard _ (bthen hb1.out (And.left ‹Below W1.heap.size W1 _ ∧ _›))).mono ?_); rintro e wq0 ⟨rfl, hb6⟩; have hq := bcell hb6; obtain ⟨hqa, hqb⟩ := hq; have hqs := hb6.size; (try simp only [World.size_alloc, World.size_drew] at hqs))) | (go_at_call 39; (refine (hlay _ _ _ (by simp [go_sem, *]) (bthen hb1.out (And.left ‹Below W1.heap.size W1 _ ∧ _›))).mono ?_; rintro e wq1 ⟨rfl, hbq1⟩))) | fail)
    all_goals
      have hHb := And.left ‹Below W1.heap.size W1 _ ∧ _›
      go_wp2_with fail
      go_ret2
      exact ⟨none, 0, by rw [hf.out.1, hf.out.2]; rfl, by rw [hf.out.1]; exact World.ownsRow_nil _ _ _ _, bthen hb1.out hHb⟩
  have hL0 : layI wd xs [ys] (validCardL ys) = 0 := by simpa using hL
  rw [hL0] at hlay
  have hcards := Lib.hid (fun (x : Itm) (hxm : x ∈ xs) => fit_card hL0 hxm)
  have h8 := Lib.hid (fun h => rec_8 hL0 h)
  have h0 := Lib.hid (fun h => rec_ok hL0 h)
  have hxs := Lib.hid hx
  have hys := Lib.hid hy
  have hsz := itemsSz_len xs
  have hrl := recL_len xs ys
  clear hL hL0 hx hy
  generalize hN : xs.length = n at *
  have hN' := Lib.hid hN
  clear hN
  go_enter Tryz.func9, Tryz.ntmps9
  go_upto_region 1 with (fail)
  have hc0 : ((w.alloc (.cells #[.int .i64 wd, .slice a n c] 26)).alloc (.cells #[.slice b ys.length d] 32)).cell? ⟨w.heap.size, 0, none⟩ = some (.int .i64 wd) := by simp [go_sem]
  have hc1 : ((w.alloc (.cells #[.int .i64 wd, .slice a n c] 26)).alloc (.cells #[.slice b ys.length d] 32)).cell? ⟨w.heap.size, 1, none⟩ = some (.slice a n c) := by simp [go_sem]
  have hc2 : ((w.alloc (.cells #[.int .i64 wd, .slice a n c] 26)).alloc (.cells #[.slice b ys.length d] 32)).cell? ⟨w.heap.size + 1, 0, none⟩ = some (.slice b ys.length d) := by simp [go_sem]
  generalize hW1 : ((w.alloc (.cells #[.int .i64 wd, .slice a n c] 26)).alloc (.cells #[.slice b ys.length d] 32)) = W1 at *
  go_cut [6] from 12 to 17 (fun s6 wx => s6 = .int .i64 0 ∧ Below W1.heap.size W1 wx)
  case first =>
    (first | go_region_held3 (fun W => Below W1.heap.size W1 W ∧ W.cell? ⟨w.heap.size, 0, none⟩ = some (.int .i64 wd) ∧ W.cell? ⟨w.heap.size, 1, none⟩ = some (.slice a n c) ∧ W.cell? ⟨w.heap.size + 1, 0, none⟩ = some (.slice b ys.length d)) (first | exact held3 (below_drewN (Below.refl _ _) 1) hc0 hc1 hc2 | (rename Below W1.heap.size W1 _ ∧ _ => hH; refine held3 ?_ hc0 hc1 hc2; first | (refine bthen hH.1 ?_; assumption) | exact hH.1.alloc hH.1.size _)) (first | (go_at_call 40; ((with_reducible refine (hcard _ (bthen hb1.out (And.left ‹Below W1.heap.size W1 _ ∧ _›))).mono ?_); rintro e wq0 ⟨rfl, hb6⟩; have hq := bcell hb6; obtain ⟨hqa, hqb⟩ := hq; have hqs := hb6.size; (try simp only [World.size_alloc, World.size_drew] at hqs))) | (go_at_call 39; (refine (hlay _ _ _ (by simp [go_sem, *]) (bthen hb1.out (And.left ‹Below W1.heap.size W1 _ ∧ _›))).mono ?_; rintro e wq1 ⟨rfl, hbq1⟩))) | fail)
    all_goals
      go_wp2_with fail
      go_meet
      exact ⟨rfl, And.left ‹Below W1.heap.size W1 _ ∧ _›⟩
  obtain ⟨rfl, hHb⟩ := hcut
  rename World => w2
  have hB2 := Lib.hid (bthen hb1.out hHb)
  have z0 := keep hHb hc0
  have z1 := keep hHb hc1
  have z2 := keep hHb hc2
  clear hHb hc0 hc1 hc2
  have hs2 := hB2.out.size
  have hown0 := World.ownsRow_lit (base := w2.heap.size) (e := 9) (size := 1) w2 #[] 0 (Nat.le_refl _) (by simp [maxLen]) rfl
  have z1' := keep (below_alloc (w := w2) (.cells #[] 9)) z1
  have hl1 : w.heap.size < w2.heap.size := World.block_lt_of_cell? _ _ z1
  have hl1n : ¬ w.heap.size = w2.heap.size := by omega
  go_wp2_with fail
  go_loopw [7, 25] (fun v i wr => ∃ (k : Nat) (a' : Option Addr) (c' : Nat), k ≤ n ∧ i = .int .i64 k ∧ v = .slice a' (recL xs ys k).length c' ∧ Hid ((xs.take k).all (itemOk ys) = true) ∧ wr.ownsRow w2.heap.size 9 1 (.slice a' (recL xs ys k).length c') (recL xs ys k).length ((recL xs ys k).map Value.string) ∧ Below w2.heap.size w2 wr) (fun _ i _ => n - (intOf i).toNat)
  case atStart => exact ⟨0, _, _, by omega, rfl, rfl, Lib.hid rfl, hown0, below_alloc _⟩
  case round =>
    obtain ⟨k, a3, c3, hk, rfl, rfl, hall, hown, hb⟩ := hrel
    have v2 := keep hb z2
    have hBr := Lib.hid (bthen hB2.out hb)
    have hb' := Lib.hid hb
    clear hb
    by_cases hlt : k < n
    · obtain ⟨x, hxk⟩ := get_some (l := xs) (k := k) (by rw [hN'.out]; exact hlt)
      have hlt' : (k : Int) < (n : Int) := by omega
      have hxr := (hxs.out.kept hBr.out).at hxk
      obtain ⟨b1, o1, rfl, q0, q1, q2, q3⟩ := hxr
      obtain ⟨g1, g2, g3, g4⟩ := hcards.out x (List.mem_of_getElem? hxk)
      have hms := Lib.hid (valid_masks g1)
      have hba := Lib.hid (below_alloc (w := wr) (.cells #[.string x.name, .int .i64 x.kind, .int .i64 x.fr, .int .i64 x.to] 63))
      have hval := Lib.hid (impl_itemValue x b d ys (wr.alloc (.cells #[.string x.name, .int .i64 x.kind, .int .i64 x.fr, .int .i64 x.to] 63)) (hys.out.kept (bthen hBr.out hba.out)) hn2 hcap2 g3 g4 hms.out (TabIs.kept ht (bthen hBr.out hba.out)))
      have hvlt : w.heap.size + 1 < wr.heap.size := World.block_lt_of_cell? _ _ v2
      have hvne : ¬ w.heap.size + 1 = wr.heap.size := by omega
      have hs := Lib.hid (recL_succ (ys := ys) hxk)
      have hil := hrl k
      have hown' := Lib.hid (OV.of hown)
      have hbad := Lib.hid (fun h => items_bad (ys := ys) hxk h)
      have hmore := Lib.hid (fun h => items_more hxk hall.out h)
      have hio : Hid ((valS x ys).2 = itemOk ys x) := Lib.hid rfl
      clear hxk g1 g2 g3 g4 hown
      rw [hio.out] at hval
      generalize (valS x ys).1 = V at *
      cases hB : itemOk ys x
      · have hf := Lib.hid (h8.out (hbad.out hB))
        rw [hB] at hval
        go_wp2_with fail
        refine hval.out.mono ?_
        rintro e w3 ⟨rfl, hb3⟩
        go_wp2_with fail
        go_ret2
        exact ⟨none, 0, by rw [hf.out.1, hf.out.2]; rfl, by rw [hf.out.1]; exact World.ownsRow_nil _ _ _ _, bthen hBr.out (bthen hba.out hb3)⟩
      · have hnx := hmore.out hB
        rw [hB] at hval
        go_wp2_with fail
        refine hval.out.mono ?_
        rintro e w3 ⟨rfl, hb3⟩
        have hown3 := (((hown'.out.kept hba.out).kept hb3)).1
        have hbw3 := bthen hb'.out (bthen hba.out hb3)
        clear hb3
        go_wp2_with (at_builtin; refine wpList_append_own _ rfl _ _ 27 rfl (w2.heap.size) 9 i0 (.string ⟨#[]⟩) 1 16 Tryz.underlying27 hi hz0 hz1 hz2 rfl (by decide) _ ((recL xs ys k).length) ((recL xs ys k).map Value.string) rfl (hown3.alloc _) ⟨_, 0, none⟩ 1 1 [.string V] rfl rfl (news_one _ _ _) (one_one rfl) (by (have hq0 := hil); simp only [maxLen]; omega) (by (have hq0 := hil); omega) (by (have hq0 := hbw3.size); simp only [World.size_alloc]; omega) ?_; intro v1 w1 hown1 hgrow1 _; have hbq := Lib.hid (app_below hbw3 hbw3.size hown3 (by first | exact Nat.le_refl _ | omega) hgrow1); obtain ⟨a1, c1, hv1, _, _⟩ := own_slice hown1; subst hv1; have hownq := Lib.hid hown1; clear hown1 hgrow1)
        go_roundw
        case rel => exact ⟨k + 1, a1, c1, by omega, by go_num, by rw [hs.out, List.length_append]; rfl, hnx, by rw [hs.out, List.length_append, List.map_append]; exact hownq.out, hbq.out⟩
        case measure => simp [intOf]; omega
    · obtain rfl : k = n := by omega
      have hf := Lib.hid (h0.out (by have := hall.out; rwa [List.take_of_length_le (by rw [hN'.out]; omega)] at this))
      go_wp2_with fail
      go_ret2
      exact ⟨a3, c3, by rw [hf.out.1, hf.out.2]; rfl, by rw [hf.out.1]; exact own_mono hown hs2, bthen hB2.out hb'.out⟩
end Go.Proofs.YtmpfnkheohlmiaaGreatDoor
