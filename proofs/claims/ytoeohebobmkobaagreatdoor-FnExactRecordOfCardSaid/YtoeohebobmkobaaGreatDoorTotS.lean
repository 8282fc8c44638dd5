/- The walks of spec.l04Deck and spec.ItemTotal: what they return, and that memory has at most new blocks. -/
import Derived.Test.YtoeohebobmkobaaGreatDoorTotI
namespace Go.Proofs.YtoeohebobmkobaaGreatDoor
open Go.RowKit
set_option maxRecDepth 100000
set_option linter.unusedVariables false
set_option linter.unusedSimpArgs false
set_option linter.unnecessarySimpa false

def dkC (wd : Int) (xs : List Itm) (xss : List (List Int)) (nm : ByteArray) : Int := if layI wd xs xss (validDeckL xss) == 0 then (if findI xs nm < 0 then 3 else 0) else layI wd xs xss (validDeckL xss)
def dkK (wd : Int) (xs : List Itm) (xss : List (List Int)) (nm : ByteArray) : Int := if layI wd xs xss (validDeckL xss) == 0 then (if findI xs nm < 0 then 0 else findI xs nm) else 0
theorem dk_no {wd : Int} {xs : List Itm} {xss : List (List Int)} (nm : ByteArray) {k : Int} (h : layI wd xs xss (validDeckL xss) = k) (hk : (k == 0) = false) : dkK wd xs xss nm = 0 ∧ dkC wd xs xss nm = k := by unfold dkK dkC; rw [h, hk]; exact ⟨rfl, rfl⟩
theorem dk_3 {wd : Int} {xs : List Itm} {xss : List (List Int)} {nm : ByteArray} (h : layI wd xs xss (validDeckL xss) = 0) (h2 : findI xs nm < 0) : dkK wd xs xss nm = 0 ∧ dkC wd xs xss nm = 3 := by unfold dkK dkC; rw [h]; simp [h2]
theorem dk_ok {wd : Int} {xs : List Itm} {xss : List (List Int)} {nm : ByteArray} (h : layI wd xs xss (validDeckL xss) = 0) (h2 : ¬ findI xs nm < 0) : dkK wd xs xss nm = findI xs nm ∧ dkC wd xs xss nm = 0 := by unfold dkK dkC; rw [h]; simp [h2]
set_option maxHeartbeats 2000000 in
theorem spec_l04Deck (B : Nat) (wd : Int) (a : Option Addr) (c : Nat) (xs : List Itm) (b : Option Addr) (d : Nat) (xss : List (List Int)) (nm : ByteArray) (w : World) (hca : w.cell? ⟨B, 0, none⟩ = some (.int .i64 wd)) (hcb : w.cell? ⟨B, 1, none⟩ = some (.slice a xs.length c)) (hx : RT w a xs) (hy : RD w b xss) (hn : itemsSz xs ≤ 1048576) (hn2 : deckSz xss ≤ 1048576) :
    Calls Tryz.prog 33 #[.pointer (some ⟨B, 0, none⟩), .slice b xss.length d, .string nm] w fun e w' => e = .returned (.tuple #[.int .i64 (dkK wd xs xss nm), .int .i64 (dkC wd xs xss nm)]) ∧ Below w.heap.size w w' := by
  have hok : ∀ W : World, Below w.heap.size w W → Calls Tryz.prog 49 #[.pointer (some ⟨B, 0, none⟩)] W fun e w' => e = .returned (.bool (validLayB wd xs)) ∧ Below W.heap.size W w' := fun W hW => spec_l04Ok B wd a c xs W (keep hW hca) (keep hW hcb) (hx.kept hW) hn
  have hdk : ∀ W : World, Below w.heap.size w W → Calls Tryz.prog 59 #[.slice b xss.length d] W fun e w' => e = .returned (.bool (validDeckL xss)) ∧ Below W.heap.size W w' := fun W hW => spec_l02Deck b d xss W (hy.kept hW) hn2
  have hfind : ∀ W : World, Below w.heap.size w W → Calls Tryz.prog 56 #[.pointer (some ⟨B, 0, none⟩), .string nm] W fun e w' => e = .returned (.int .i64 (findI xs nm)) ∧ Below W.heap.size W w' := fun W hW => spec_l04Find B wd a c xs nm W (keep hW hcb) (hx.kept hW) hn
  cases hv : validLayB wd xs
  · have hf := Lib.hid (dk_no nm (lay_1 xss (validDeckL xss) hv) rfl)
    rw [hv] at hok
    go_enter Tryz.func33, Tryz.ntmps33
    go_wp2_with fail
    refine (hok _ (Below.refl _ _)).mono ?_
    rintro e w2 ⟨rfl, hb⟩
    go_wp2_with fail
    go_ret2
    exact ⟨by rw [hf.out.1, hf.out.2]; rfl, hb⟩
  rw [hv] at hok
  cases hv2 : validDeckL xss
  · have hf := Lib.hid (dk_no (k := 1) nm (by rw [hv2]; exact lay_2 wd xs xss) rfl)
    rw [hv2] at hdk
    go_enter Tryz.func33, Tryz.ntmps33
    go_wp2_with fail
    refine (hok _ (Below.refl _ _)).mono ?_
    rintro e w2 ⟨rfl, hb⟩
    go_wp2_with fail
    refine (hdk _ hb).mono ?_
    rintro e w3 ⟨rfl, hb3⟩
    go_wp2_with fail
    go_ret2
    exact ⟨by rw [hf.out.1, hf.out.2]; rfl, bthen hb hb3⟩
  rw [hv2] at hdk
  cases xss with
  | nil =>
    have hl0 : layI wd xs [] (validDeckL []) = 0 := by rw [hv2]; exact lay_nil hv
    have hf3 := Lib.hid (fun (h : findI xs nm < 0) => dk_3 (nm := nm) hl0 h)
    have hf0 := Lib.hid (fun (h : ¬ findI xs nm < 0) => dk_ok (nm := nm) hl0 h)
    have hd1 : decide ((0 : Int) < (([] : List (List Int)).length : Int)) = false := rfl
    have hd2 : decide (0 < ([] : List (List Int)).length) = false := rfl
    clear hl0
    go_enter Tryz.func33, Tryz.ntmps33
    go_wp2_with fail
    refine (hok _ (Below.refl _ _)).mono ?_
    rintro e w2 ⟨rfl, hb⟩
    go_wp2_with fail
    refine (hdk _ hb).mono ?_
    rintro e w3 ⟨rfl, hb'⟩
    have hb3 := bthen hb hb'
    have k0 := keep hb3 hca
    have k1 := keep hb3 hcb
    clear hb hb'
    go_wp2_with fail
    first | go_quiet (fail) | fail
    by_cases hneg : findI xs nm < 0
    · have hf := hf3.out hneg
      go_wp2_with fail
      refine (hfind _ (by first | exact below_drewN hb3 _ | exact hb3)).mono ?_
      rintro e w4 ⟨rfl, hb4⟩
      go_wp2_with fail
      go_ret2
      exact ⟨by rw [hf.1, hf.2]; rfl, bthen (by first | exact below_drewN hb3 _ | exact hb3) hb4⟩
    · have hf := hf0.out (by first | exact hneg | omega)
      go_wp2_with fail
      refine (hfind _ (by first | exact below_drewN hb3 _ | exact hb3)).mono ?_
      rintro e w4 ⟨rfl, hb4⟩
      go_wp2_with fail
      go_ret2
      exact ⟨by rw [hf.1, hf.2]; rfl, bthen (by first | exact below_drewN hb3 _ | exact hb3) hb4⟩
  | cons x r =>
    obtain ⟨b1, o1, a1, c1, rfl, hcx, hrx, hcx1, hcx2⟩ := hy.at (k := 0) (xs := x) rfl
    rw [Nat.add_zero] at hcx
    have hd1 : decide ((0 : Int) < ((x :: r).length : Int)) = true := by first | (simp; done) | (simp; omega)
    have hd2 : decide (0 < (x :: r).length) = true := by simp
    have hd3 : (0 : Int) < ((x :: r).length : Int) := by first | (simp; done) | (simp; omega)
    have hd4 : 0 < (x :: r).length := by simp
    clear hy hn2
    by_cases he : (x.length : Int) = wd
    · have hl0 : layI wd xs (x :: r) (validDeckL (x :: r)) = 0 := by rw [hv2]; exact lay_ok hv he
      have hf3 := Lib.hid (fun (h : findI xs nm < 0) => dk_3 (nm := nm) hl0 h)
      have hf0 := Lib.hid (fun (h : ¬ findI xs nm < 0) => dk_ok (nm := nm) hl0 h)
      have hne : ((x.length : Int) != wd) = false := by simp [he]
      clear hl0 he
      generalize hQ : (x :: r).length = q at *
      clear hQ
      go_enter Tryz.func33, Tryz.ntmps33
      go_wp2_with fail
      refine (hok _ (Below.refl _ _)).mono ?_
      rintro e w2 ⟨rfl, hb⟩
      go_wp2_with fail
      refine (hdk _ hb).mono ?_
      rintro e w3 ⟨rfl, hb'⟩
      have hb3 := bthen hb hb'
      have k0 := keep hb3 hca
      have k1 := keep hb3 hcb
      have kx := keep hb3 hcx
      clear hb hb'
      go_wp2_with fail
      first | go_quiet (fail) | fail
      by_cases hneg : findI xs nm < 0
      · have hf := hf3.out hneg
        go_wp2_with fail
        refine (hfind _ (by first | exact below_drewN hb3 _ | exact hb3)).mono ?_
        rintro e w4 ⟨rfl, hb4⟩
        go_wp2_with fail
        go_ret2
        exact ⟨by rw [hf.1, hf.2]; rfl, bthen (by first | exact below_drewN hb3 _ | exact hb3) hb4⟩
      · have hf := hf0.out (by first | exact hneg | omega)
        go_wp2_with fail
        refine (hfind _ (by first | exact below_drewN hb3 _ | exact hb3)).mono ?_
        rintro e w4 ⟨rfl, hb4⟩
        go_wp2_with fail
        go_ret2
        exact ⟨by rw [hf.1, hf.2]; rfl, bthen (by first | exact below_drewN hb3 _ | exact hb3) hb4⟩
    · have hf := Lib.hid (dk_no nm (k := 2) (by rw [hv2]; exact lay_not (r := r) hv he) rfl)
      have hne : ((x.length : Int) != wd) = true := by simp [he]
      clear he
      generalize hQ : (x :: r).length = q at *
      clear hQ
      go_enter Tryz.func33, Tryz.ntmps33
      go_wp2_with fail
      refine (hok _ (Below.refl _ _)).mono ?_
      rintro e w2 ⟨rfl, hb⟩
      go_wp2_with fail
      refine (hdk _ hb).mono ?_
      rintro e w3 ⟨rfl, hb'⟩
      have hb3 := bthen hb hb'
      have k0 := keep hb3 hca
      have k1 := keep hb3 hcb
      have kx := keep hb3 hcx
      clear hb hb'
      go_wp2_with fail
      first | go_quiet (fail) | fail
      go_wp2_with fail
      go_ret2
      exact ⟨by rw [hf.out.1, hf.out.2]; rfl, by first | exact below_drewN hb3 _ | exact hb3⟩
end Go.Proofs.YtoeohebobmkobaaGreatDoor
