/- The walks of the functions that tell the value of an item of a card. -/
import Derived.Test.YtcbjfgjlhjjpiaaGreatDoorTotL
import Derived.Test.YtcbjfgjlhjjpiaaGreatDoorComp
import Derived.Test.YtcbjfgjlhjjpiaaGreatDoorDec
import Derived.Test.YtcbjfgjlhjjpiaaGreatDoorTabs
import Derived.Lib.TrimByte
namespace Go.Proofs.YtcbjfgjlhjjpiaaGreatDoor
open Go.RowKit
set_option maxRecDepth 100000
set_option linter.unusedVariables false
set_option linter.unusedSimpArgs false
set_option linter.unnecessarySimpa false

/-- a text without the blanks at its end -/
def trimT (s : ByteArray) : ByteArray := ⟨(Lib.trimRightB s.data.toList 32).toArray⟩
def valS (x : Itm) (c : List Int) : ByteArray × Bool :=
  if x.kind == 2 then (⟨(Lib.itoa (valN x c)).toArray⟩, okN x c) else (trimT (textOrS (partL c x.fr x.to)), legalL (partL c x.fr x.to))
theorem val_num {x : Itm} (c : List Int) (h : (x.kind == 2) = true) : valS x c = (⟨(Lib.itoa (valN x c)).toArray⟩, okN x c) := by unfold valS; rw [h]; rfl
theorem val_text {x : Itm} (c : List Int) (h : (x.kind == 2) = false) : valS x c = (trimT (textOrS (partL c x.fr x.to)), legalL (partL c x.fr x.to)) := by unfold valS; rw [h]; rfl
theorem textOr_bad {xs : List Int} (h : legalL xs = false) : textOrS xs = ⟨#[]⟩ := by unfold textOrS; rw [h]; rfl
theorem textOr_good {xs : List Int} (h : legalL xs = true) : textOrS xs = textS xs := by unfold textOrS; rw [h]; rfl
theorem trimT_nil : trimT ⟨#[]⟩ = ⟨#[]⟩ := by unfold trimT Lib.trimRightB; rfl
theorem val_no {x : Itm} {c : List Int} (h : (x.kind == 2) = false) (h2 : legalL (partL c x.fr x.to) = false) : valS x c = (⟨#[]⟩, false) := by rw [val_text c h, textOr_bad h2, h2, trimT_nil]
theorem val_yes {x : Itm} {c : List Int} (h : (x.kind == 2) = false) (h2 : legalL (partL c x.fr x.to) = true) : valS x c = (trimT (textS (partL c x.fr x.to)), true) := by rw [val_text c h, textOr_good h2, h2]
/-- a text that is cut down to the bytes ahead of its last blanks -/
def CutTo (L : List UInt8) (S : ByteArray) : Prop := S.size ≤ L.length ∧ S.data.toList = L.take S.size ∧ ∀ (j : Nat) (b : UInt8), S.size ≤ j → L[j]? = some b → b = 32
theorem CutTo.start (S : ByteArray) : CutTo S.data.toList S := by
  have hl := len_bytes S
  exact ⟨by omega, by rw [List.take_of_length_le (by omega)], fun j b hj hb => by have := (List.getElem?_eq_some_iff.1 hb).1; omega⟩
theorem cut_get {L : List UInt8} {S : ByteArray} (h : CutTo L S) (h0 : S.size - 1 < S.size) : L[S.size - 1]? = some (S[S.size - 1]'h0) := by
  have e := get_bytes S (S.size - 1) h0
  rw [h.2.1, List.getElem?_take] at e
  simpa [h0] using e
theorem CutTo.next {L : List UInt8} {S : ByteArray} (h : CutTo L S) (h0 : S.size - 1 < S.size) (h1 : S[S.size - 1]'h0 = 32) : CutTo L (S.extract 0 (S.size - 1)) := by
  have hs : (S.extract 0 (S.size - 1)).size = S.size - 1 := by rw [ByteArray.size_extract]; omega
  have h2 := h.1
  refine ⟨by omega, ?_, fun j b hj hb => ?_⟩
  · rw [hs]
    have e : (S.extract 0 (S.size - 1)).data.toList = S.data.toList.take (S.size - 1) := by
      rw [ByteArray.data_extract, Array.toList_extract]; simp only [List.extract, List.drop_zero, Nat.sub_zero]
    rw [e, h.2.1, List.take_take]; congr 1; omega
  · rw [hs] at hj
    by_cases he : j = S.size - 1
    · subst he
      rw [cut_get h h0] at hb
      rw [← Option.some.inj hb]; exact h1
    · exact h.2.2 j b (by omega) hb
theorem CutTo.done {L : List UInt8} {S : ByteArray} (h : CutTo L S) (h1 : ∀ h0 : S.size - 1 < S.size, S[S.size - 1]'h0 ≠ 32) : S = ⟨(Lib.trimRightB L 32).toArray⟩ := by
  have e := Lib.trimRightB_take L 32 S.size h.1 h.2.2 (fun b hb hg => by
    have h0 : S.size - 1 < S.size := by omega
    rw [cut_get h h0] at hg
    rw [← Option.some.inj hg]; exact h1 h0)
  rw [e, ← h.2.1]
theorem cut_trim {S T : ByteArray} (h : CutTo S.data.toList T) (h1 : ∀ h0 : T.size - 1 < T.size, T[T.size - 1]'h0 ≠ 32) : T = trimT S := CutTo.done h h1
theorem valN_small {x : Itm} {ys : List Int} (hq : fieldB x.fr x.to ys.length = true) (h12 : x.to - x.fr ≤ 12) : -9223372036854775808 ≤ valN x ys ∧ valN x ys ≤ 9223372036854775807 := by
  obtain ⟨h1, h2, h3⟩ := fieldB_yes hq
  have hlen := partL_length hq
  have := numRes_bd (ys := partL ys x.fr x.to) (by omega) (by omega)
  unfold valN; omega
set_option maxHeartbeats 1000000 in
theorem impl_itemValue (x : Itm) (a : Option Addr) (c : Nat) (ys : List Int) (w : World) (hx : RI w a ys) (hn : ys.length ≤ 1048576) (hcap : ys.length ≤ c) (hq : fieldB x.fr x.to ys.length = true) (h12 : x.kind = 2 → x.to - x.fr ≤ 12) (hms : ∀ m ∈ ys, 0 ≤ m ∧ m ≤ 4095) (ht : Pow10 w) :
    Calls Tryz.prog 102 #[.agg #[.string x.name, .int .i64 x.kind, .int .i64 x.fr, .int .i64 x.to], .agg #[.slice a ys.length c]] w fun e w' => e = .returned (.tuple #[.string (valS x ys).1, .bool (valS x ys).2]) ∧ Below w.heap.size w w' := by
  have hb2 := Lib.hid (below_alloc2 w (.cells #[.string x.name, .int .i64 x.kind, .int .i64 x.fr, .int .i64 x.to] 48) (.cells #[.slice a ys.length c] 30))
  cases hk : (x.kind == 2)
  · have hhas : ∀ W : World, Below w.heap.size w W → Calls Tryz.prog 158 #[.agg #[.slice a ys.length c], .agg #[.int .i64 x.fr, .int .i64 x.to]] W fun e w' => e = .returned (.bool (legalL (partL ys x.fr x.to))) ∧ Below W.heap.size W w' := fun W hW => impl_hasField a c ys x.fr x.to W (hx.kept hW) hn hcap hq
    cases hl : legalL (partL ys x.fr x.to)
    · have hf := Lib.hid (val_no hk hl)
      rw [hl] at hhas
      go_enter Tryz.func102, Tryz.ntmps102
      go_wp2_with fail
      refine (hhas _ hb2.out).mono ?_
      rintro e w2 ⟨rfl, hb⟩
      go_wp2_with fail
      go_ret2
      exact ⟨by rw [hf.out]; rfl, bthen hb2.out hb⟩
    · have hf := Lib.hid (val_yes hk hl)
      rw [hl] at hhas
      obtain ⟨nm, kd, f, t⟩ := x
      simp only at hb2 hk hhas hl hf hq
      obtain ⟨h1, h2, h3⟩ := fieldB_yes hq
      obtain ⟨z, hz0⟩ := get_some (l := ys) (k := 0) (by omega)
      obtain ⟨b1, o1, rfl, hc1⟩ := hx.at hz0
      obtain ⟨f, rfl⟩ := Int.eq_ofNat_of_zero_le h1
      obtain ⟨t, rfl⟩ := Int.eq_ofNat_of_zero_le (show 0 ≤ t by omega)
      have h2' : f ≤ t := by omega
      have h3' : t ≤ ys.length := by omega
      have h4' : t ≤ c := by omega
      have hcf : ¬ c = f := by omega
      clear hz0 hc1
      have hpl := partL_eq hq
      have htx : ∀ W : World, Below w.heap.size w W → Calls Tryz.prog 160 #[.slice (some ⟨b1, o1 + f, none⟩) (t - f) (c - f)] W fun e w' => e = .returned (.string (textS (partL ys (f : Int) (t : Int)))) ∧ Below W.heap.size W w' := fun W hW => by
        have h := impl_textOf (some ⟨b1, o1 + f, none⟩) (c - f) (partL ys (f : Int) (t : Int)) W (ri_sub (hx.kept hW) f ((t : Int) - f).toNat) (partL_small _ _ hn) hl
        rw [hpl] at h; exact h
      have htr : ∀ W : World, Calls Tryz.prog 159 #[.string (textS (partL ys (f : Int) (t : Int))), .string ⟨#[32]⟩] W fun e w' => e = .returned (.string (trimT (textS (partL ys (f : Int) (t : Int))))) ∧ w' = W := fun W => Tryz.strings_TrimRight_one _ 32 (by decide) W (by rw [textS_size]; have := partL_small (f : Int) (t : Int) hn; omega)
      clear hl hpl hq h1 h2 h3
      go_enter Tryz.func102, Tryz.ntmps102
      go_wp2_with fail
      refine (hhas _ hb2.out).mono ?_
      rintro e w2 ⟨rfl, hb⟩
      (have hc0 := keep (p := ⟨w.heap.size, 2, none⟩) (v := .int .i64 f) hb (by simp [go_sem, *]); have hf0 := keepf (p := ⟨w.heap.size, 2, none⟩) (v := .int .i64 f) hb (by simp [go_sem, *]) (by simp [go_sem, *]); have hl0 := World.block_lt_of_cell? _ _ hc0; have hc1 := keep (p := ⟨w.heap.size, 3, none⟩) (v := .int .i64 t) hb (by simp [go_sem, *]); have hf1 := keepf (p := ⟨w.heap.size, 3, none⟩) (v := .int .i64 t) hb (by simp [go_sem, *]) (by simp [go_sem, *]); have hl1 := World.block_lt_of_cell? _ _ hc1; have hc2 := keep (p := ⟨w.heap.size + 1, 0, none⟩) (v := .slice (some ⟨b1, o1, none⟩) ys.length c) hb (by simp [go_sem, *]); have hf2 := keepf (p := ⟨w.heap.size + 1, 0, none⟩) (v := .slice (some ⟨b1, o1, none⟩) ys.length c) hb (by simp [go_sem, *]) (by simp [go_sem, *]); have hl2 := World.block_lt_of_cell? _ _ hc2)
      have hB := Lib.hid (bthen hb2.out hb)
      clear hb
      go_wp2_with fail
      refine (htx _ hB.out).mono ?_
      rintro e w3 ⟨rfl, hb3⟩
      go_wp2_with fail
      refine (htr _).mono ?_
      rintro e w4 ⟨rfl, rfl⟩
      go_wp2_with fail
      go_ret2
      exact ⟨by rw [hf.out]; rfl, bthen hB.out hb3⟩
  · have hk2 : x.kind = 2 := by simpa using hk
    have hf := Lib.hid (val_num ys hk)
    have hbd := valN_small hq (h12 hk2)
    have hnum : ∀ W : World, Below w.heap.size w W → Calls Tryz.prog 96 #[.agg #[.slice a ys.length c], .agg #[.int .i64 x.fr, .int .i64 x.to]] W fun e w' => e = .returned (.tuple #[.int .i64 (valN x ys), .bool (okN x ys)]) ∧ Below W.heap.size W w' := fun W hW => impl_numberIn a c ys x.fr x.to W (hx.kept hW) hn hcap hq (h12 hk2) hms
    clear hk2 h12
    go_enter Tryz.func102, Tryz.ntmps102
    go_wp2_with fail
    refine (hnum _ hb2.out).mono ?_
    rintro e w2 ⟨rfl, hb⟩
    have hB := Lib.hid (bthen hb2.out hb)
    clear hb
    go_wp2_with fail
    refine (impl_Decimal (valN x ys) _ hbd.1 hbd.2 (TabIs.kept ht hB.out)).mono ?_
    rintro e w3 ⟨rfl, hb3⟩
    go_wp2_with fail
    go_ret2
    exact ⟨by rw [hf.out]; rfl, bthen hB.out hb3⟩
set_option maxHeartbeats 1000000 in
theorem spec_l04Value (b1 o1 b2 o2 : Nat) (x : Itm) (a : Option Addr) (c : Nat) (ys : List Int) (w : World) (q1 : w.cell? ⟨b1, o1 + 1, none⟩ = some (.int .i64 x.kind)) (q2 : w.cell? ⟨b1, o1 + 2, none⟩ = some (.int .i64 x.fr)) (q3 : w.cell? ⟨b1, o1 + 3, none⟩ = some (.int .i64 x.to)) (hc : w.cell? ⟨b2, o2, none⟩ = some (.slice a ys.length c)) (hx : RI w a ys) (hn : ys.length ≤ 1048576) (hcap : ys.length ≤ c) (hq : fieldB x.fr x.to ys.length = true) (h12 : x.kind = 2 → x.to - x.fr ≤ 12) (hms : ∀ m ∈ ys, 0 ≤ m ∧ m ≤ 4095) :
    Calls Tryz.prog 101 #[.pointer (some ⟨b1, o1, none⟩), .pointer (some ⟨b2, o2, none⟩)] w fun e w' => e = .returned (.tuple #[.string (valS x ys).1, .bool (valS x ys).2]) ∧ Below w.heap.size w w' := by
  have hlen := partL_length hq
  obtain ⟨t1, t2, t3⟩ := fieldB_yes hq
  have hpart : ∀ W : World, Below w.heap.size w W → Calls Tryz.prog 99 #[.pointer (some ⟨b2, o2, none⟩), .agg #[.int .i64 x.fr, .int .i64 x.to]] W fun e w' => ∃ a' c', e = .returned (.slice a' (partL ys x.fr x.to).length c') ∧ RI w' a' (partL ys x.fr x.to) ∧ Below W.heap.size W w' := fun W hW => spec_l02Part_at b2 o2 a c ys x.fr x.to W (keep hW hc) (hx.kept hW) (small hn) hcap hq
  cases hk : (x.kind == 2)
  · have hf := Lib.hid (val_text ys hk)
    have htx : ∀ (W : World) (a' : Option Addr) (c' : Nat), RI W a' (partL ys x.fr x.to) → Calls Tryz.prog 157 #[.slice a' (partL ys x.fr x.to).length c'] W fun e w' => e = .returned (.tuple #[.string (textOrS (partL ys x.fr x.to)), .bool (legalL (partL ys x.fr x.to))]) ∧ Below W.heap.size W w' := fun W a' c' hr => spec_l03Text a' c' _ W hr (partL_small _ _ hn)
    have hsz : (textOrS (partL ys x.fr x.to)).size ≤ 1048576 := by
      have := partL_small x.fr x.to hn
      cases hl : legalL (partL ys x.fr x.to)
      · rw [textOr_bad hl]; simp [ByteArray.size]
      · rw [textOr_good hl, textS_size]; omega
    clear hlen t1 t2 t3 hq h12
    generalize partL ys x.fr x.to = P at *
    generalize textOrS P = T at *
    go_enter Tryz.func101, Tryz.ntmps101
    go_wp2_with fail
    refine (hpart _ (Below.refl _ _)).mono ?_
    rintro e w2 ⟨a5, c5, rfl, hr5, hb5⟩
    have z1 := keep hb5 q1
    go_wp2_with fail
    refine (htx _ a5 c5 hr5).mono ?_
    rintro e w3 ⟨rfl, hb6⟩
    have hB := Lib.hid (bthen hb5 hb6)
    clear hb5 hb6 z1
    go_wp2_with fail
    go_loop [9] (fun v => ∃ S : ByteArray, v = .string S ∧ S.size ≤ 1048576 ∧ Hid (CutTo T.data.toList S)) (fun v => match v with | .string S => S.size | _ => 0)
    case atStart => exact ⟨T, rfl, hsz, Lib.hid (CutTo.start T)⟩
    case round =>
      obtain ⟨S, rfl, hS, hcut⟩ := hrel
      by_cases h0 : 0 < S.size
      · have hl : S.size - 1 < S.size := by omega
        have hl1 : (S.size : Int) - 1 < (S.size : Int) := by omega
        have hl0 : (0 : Int) ≤ (S.size : Int) - 1 := by omega
        have hcast : (S.size : Int) - 1 = ((S.size - 1 : Nat) : Int) := by omega
        have hd : decide ((0 : Int) < (S.size : Int)) = true := by simp; omega
        by_cases hc : S[S.size - 1] = 32
        · have hnx := Lib.hid (hcut.out.next hl hc)
          have hcu : (((S[S.size - 1]'hl).toNat : Int) == 32) = true := by rw [hc]; rfl
          clear hc
          go_wp2_with fail
          go_round
          case rel => exact ⟨_, rfl, by rw [ByteArray.size_extract]; omega, hnx⟩
          case measure => show (S.extract 0 (S.size - 1)).size < S.size; rw [ByteArray.size_extract]; omega
        · have hcu : (((S[S.size - 1]'hl).toNat : Int) == 32) = false := by
            have : ¬ (S[S.size - 1]'hl).toNat = (32 : UInt8).toNat := fun e => hc (UInt8.toNat_inj.1 e)
            simp at this ⊢; omega
          have hfin := Lib.hid (cut_trim hcut.out (fun _ => hc))
          clear hc
          go_wp2_with fail
          go_ret2
          exact ⟨by rw [hf.out, ← hfin.out]; rfl, hB.out⟩
      · have hz : S.size = 0 := by omega
        have hd : decide ((0 : Int) < (S.size : Int)) = false := decide_eq_false (by omega)
        have hfin : Hid (S = trimT T) := Lib.hid (cut_trim hcut.out (fun h => absurd h (by omega)))
        go_wp2_with fail
        go_ret2
        exact ⟨by rw [hf.out, ← hfin.out]; rfl, hB.out⟩
  · have hk2 : x.kind = 2 := by simpa using hk
    have hf := Lib.hid (val_num ys hk)
    have hbd := valN_small hq (h12 hk2)
    have h12' := h12 hk2
    have hnum : ∀ (W : World) (a' : Option Addr) (c' : Nat), RI W a' (partL ys x.fr x.to) → Calls Tryz.prog 98 #[.slice a' (partL ys x.fr x.to).length c'] W fun e w' => e = .returned (.tuple #[.int .i64 (valN x ys), .bool (okN x ys)]) ∧ Below W.heap.size W w' := fun W a' c' hr => (spec_l03Number a' c' _ W hr (by omega) (by omega) (fun q hq => hms q (List.mem_of_mem_drop (List.mem_of_mem_take hq)))).mono fun _ _ h => ⟨h.1, h.2 ▸ Below.refl _ _⟩
    clear hlen t1 t2 t3 hq h12 h12' hk2
    generalize partL ys x.fr x.to = P at *
    go_enter Tryz.func101, Tryz.ntmps101
    go_wp2_with fail
    refine (hpart _ (Below.refl _ _)).mono ?_
    rintro e w2 ⟨a5, c5, rfl, hr5, hb5⟩
    have z1 := keep hb5 q1
    go_wp2_with fail
    refine (hnum _ a5 c5 hr5).mono ?_
    rintro e w3 ⟨rfl, hb6⟩
    have hB := Lib.hid (bthen hb5 hb6)
    clear hb5 hb6 z1
    go_wp2_with fail
    refine (spec_l01Dec (valN x ys) _ hbd.1 hbd.2).mono ?_
    rintro e w4 ⟨rfl, hb7⟩
    go_wp2_with fail
    go_ret2
    exact ⟨by rw [hf.out]; rfl, bthen hB.out hb7⟩
end Go.Proofs.YtcbjfgjlhjjpiaaGreatDoor
