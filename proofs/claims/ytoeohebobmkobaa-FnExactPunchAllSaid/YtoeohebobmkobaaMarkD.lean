/- The walks of the functions that mark the cards of decks and ask for their marks: what each returns and which rows it writes. -/
import Derived.Test.YtoeohebobmkobaaMark
import Derived.Test.YtoeohebobmkobaaOPush
namespace Go.Proofs.Ytoeohebobmkobaa
open Go.RowKit
set_option maxRecDepth 100000
set_option linter.unusedVariables false
set_option linter.unusedSimpArgs false
set_option linter.unnecessarySimpa false

theorem OI.exact {w : World} {lo hi e c : Nat} {a : Option Addr} {xs : List Int} (h : OI lo hi w e a c xs) : ∃ L H, OI L H w e a c xs ∧ (∀ q, a = some q → L = q.block ∧ H = q.block + 1) ∧ (a = none → L = 0 ∧ H = 0) ∧ (∀ k, L ≤ k → k < H → lo ≤ k ∧ k < hi) := by
  obtain ⟨⟨h1, ⟨h2, h3⟩ | ⟨g, cap, cur, hv, hg, r⟩⟩, hlt⟩ := h
  · simp only [Value.slice.injEq] at h2
    obtain ⟨rfl, h22, h23⟩ := h2
    exact ⟨0, 0, ⟨⟨h1, .inl ⟨by rw [h22, h23], h3⟩⟩, fun p hp => by cases hp⟩, fun q hq => by (cases hq), fun _ => ⟨rfl, rfl⟩, fun k a b => absurd b (Nat.not_lt_zero _)⟩
  · have ha : a = some ⟨g, 0, none⟩ := by simp only [Value.slice.injEq] at hv; exact hv.1
    subst ha
    have := hlt _ rfl
    refine ⟨g, g + 1, ⟨⟨h1, .inr ⟨g, cap, cur, hv, Nat.le_refl _, r⟩⟩, fun p hp => ?_⟩, fun q hq => ?_, fun hq => by (cases hq), fun k a b => ?_⟩
    · simp only [Option.some.injEq] at hp; subst hp; exact Nat.lt_succ_self _
    · simp only [Option.some.injEq] at hq; subst hq; exact ⟨rfl, rfl⟩
    · simp only at this; omega
theorem OI.intoI {w w' : World} {L H lo hi e c : Nat} {a : Option Addr} {xs ys : List Int} (h : OI L H w' e a c ys) (hq : ∀ q, a = some q → L = q.block ∧ H = q.block + 1) (h0 : OI lo hi w e a c xs) : OI lo hi w' e a c ys := by
  refine ⟨?_, h0.2⟩
  obtain ⟨h1, h2 | ⟨g, cap, cur, hv, hg, r⟩⟩ := h.1
  · exact ⟨h1, .inl h2⟩
  · have ha : a = some ⟨g, 0, none⟩ := by simp only [Value.slice.injEq] at hv; exact hv.1
    subst ha
    exact ⟨h1, .inr ⟨g, cap, cur, hv, (own_at h0.1 rfl).1, r⟩⟩
theorem Within.into {L H lo hi : Nat} {w w' : World} (h : Within L H w w') (hh : ∀ k, L ≤ k → k < H → lo ≤ k ∧ k < hi) : Within lo hi w w' :=
  ⟨h.os, h.tape, h.output, h.size, fun k hk hn => h.block k hk (fun e => hn (hh k e.1 e.2))⟩
set_option maxHeartbeats 1000000 in
theorem laws_markCardS (lo hi : Nat) (a : Option Addr) (c : Nat) (xss : List (List Int)) (k : Int) (w : World) (h : OD lo hi w 28 2 a c xss) (h0 : 0 ≤ k) (h1 : k ≤ 1048576) (hn : deckSz xss ≤ 1048576) (hhi : hi ≤ w.heap.size) :
    Calls Try.prog 26 #[.slice a xss.length c, .int .i64 k] w fun e w' => e = .returned (.int .i64 (k + (lensUp xss xss.length : Int))) ∧ Within lo hi w w' ∧ OD lo hi w' 28 2 a c (marksD k xss) := by
  obtain ⟨hs, hd⟩ := h.parts
  have hdl := deckSz_len xss
  have hnb : xss.length ≤ 1048576 := by omega
  have hn' := Lib.hid hn
  have hd' : ODh hs lo hi w 28 2 a c (markedD k xss 0) := by rw [markedD_zero]; exact hd
  have hhs := Lib.hid hd.1
  generalize hN : xss.length = n at *
  have hN' := Lib.hid hN
  clear hN h hd hn
  go_enter Try.func26, Try.ntmps26
  go_wp2_with fail
  go_loopw [1, 5] (fun q i wr => ∃ j : Nat, j ≤ n ∧ i = .int .i64 j ∧ q = .int .i64 (k + (lensUp xss j : Int)) ∧ ODh hs lo hi wr 28 2 a c (markedD k xss j) ∧ Within lo hi w wr ∧ hi ≤ wr.heap.size) (fun _ i _ => n - (intOf i).toNat)
  case atStart => exact ⟨0, by omega, rfl, by simp [lensUp], hd', Within.refl _ _ _, hhi⟩
  case round =>
    obtain ⟨j, hj, rfl, rfl, ho, hw, hh⟩ := hrel
    replace hw := Lib.hid hw
    by_cases hlt : j < n
    · obtain ⟨x, hxj⟩ := get_some (l := xss) (k := j) (by rw [hN'.out]; exact hlt)
      obtain ⟨p, hpj⟩ := get_some (l := hs) (k := j) (by rw [hhs.out]; exact hlt)
      have hat := markedD_at (k := k) hxj
      obtain ⟨b1, o1, rfl, hc1⟩ := ho.2.1.row j _ (headsV_at hpj hat)
      obtain ⟨L, H, hoi, hq1, hq2, hq3⟩ := (ho.2.2.1 j p x hpj hat).exact
      have hsu := Lib.hid (lensUp_succ hxj)
      have hll := lensUp_le xss (j + 1)
      have hds : lensUp xss (j + 1) ≤ 1048576 := by have := hn'.out; unfold deckSz at this; omega
      have hxl : x.length ≤ 1048576 ∧ lensUp xss j ≤ 1048576 := by have := hsu.out; omega
      have hoi0 := Lib.hid (fun (w' : World) (g2 : OI L H w' 2 p.1 p.2 (marksL (k + (lensUp xss j : Int)) x.length)) => g2.intoI hq1 (ho.2.2.1 j p x hpj hat))
      have hput := Lib.hid (fun (w' : World) (g1 : Within L H wr w') (g2 : OI L H w' 2 p.1 p.2 (marksL (k + (lensUp xss j : Int)) x.length)) => (show ODh hs lo hi w' 28 2 (some ⟨b1, o1, none⟩) c (markedD k xss (j + 1)) ∧ Within lo hi w w' ∧ hi ≤ w'.heap.size from by
        refine ⟨?_, hw.out.trans (g1.into hq3), Nat.le_trans hh g1.size⟩
        rw [← markedD_set hxj]
        refine ho.put (by decide) hat hpj (marksL_length _ _) g1 hq1 hq2 ?_
        exact hoi0.out w' g2))
      have hmk := Lib.hid (laws_markInt64S' L H p.1 p.2 x (k + (lensUp xss j : Int)) wr hoi (by omega) (by omega) hxl.1)
      clear ho hat hxj hpj hoi hll hq1 hq2 hq3
      go_wp2_with fail
      refine hmk.out.mono ?_
      rintro e w2 ⟨rfl, g1, g2⟩
      have hres := Lib.hid (hput.out w2 g1 g2)
      clear g1 g2 hput hmk
      go_wp2_with fail
      go_roundw
      case rel => exact ⟨j + 1, by omega, by go_num, by rw [hsu.out]; first | go_num | (congr 1; omega), hres.out.1, hres.out.2.1, hres.out.2.2⟩
      case measure => simp [intOf]; omega
    · go_wp2_with fail
      go_ret
      have e : j = n := by omega
      subst e
      refine ⟨rfl, hw.out, ?_⟩
      have h9 := ho.od
      rwa [markedD_all (by rw [hN'.out]; exact Nat.le_refl _)] at h9
set_option maxHeartbeats 1000000 in
theorem laws_heldCardS (a : Option Addr) (c : Nat) (xss : List (List Int)) (k : Int) (w : World) (hx : RD w a (marksD k xss)) (h0 : 0 ≤ k) (h1 : k ≤ 1048576) (hn : deckSz xss ≤ 1048576) :
    Calls Try.prog 27 #[.slice a xss.length c, .int .i64 k] w fun e w' => e = .returned (.int .i64 (k + (lensUp xss xss.length : Int))) ∧ Below w.heap.size w w' := by
  have hdl := deckSz_len xss
  have hnb : xss.length ≤ 1048576 := by omega
  have hn' := Lib.hid hn
  generalize hN : xss.length = n at *
  have hN' := Lib.hid hN
  clear hN hn
  go_enter Try.func27, Try.ntmps27
  go_wp2_with fail
  go_loopw [1, 5] (fun q i wr => ∃ j : Nat, j ≤ n ∧ i = .int .i64 j ∧ q = .int .i64 (k + (lensUp xss j : Int)) ∧ Below w.heap.size w wr) (fun _ i _ => n - (intOf i).toNat)
  case atStart => exact ⟨0, by omega, rfl, by simp [lensUp], Below.refl _ _⟩
  case round =>
    obtain ⟨j, hj, rfl, rfl, hb⟩ := hrel
    by_cases hlt : j < n
    · obtain ⟨x, hxj⟩ := get_some (l := xss) (k := j) (by rw [hN'.out]; exact hlt)
      obtain ⟨b1, o1, a1, c1, rfl, hc1, hr1, hca, hcm⟩ := (hx.kept hb).at (marksD_at k xss j x hxj)
      rw [marksL_length] at hc1
      have hsu := Lib.hid (lensUp_succ hxj)
      have hll := lensUp_le xss (j + 1)
      have hds : lensUp xss (j + 1) ≤ 1048576 := by have := hn'.out; unfold deckSz at this; omega
      have hxl : x.length ≤ 1048576 ∧ lensUp xss j ≤ 1048576 := by have := hsu.out; omega
      have hmk := Lib.hid (laws_heldInt64S a1 c1 x.length (k + (lensUp xss j : Int)) wr hr1 (by omega) (by omega) hxl.1)
      clear hxj hr1 hll
      go_wp2_with fail
      refine hmk.out.mono ?_
      rintro e w2 ⟨rfl, hb2⟩
      clear hmk
      go_wp2_with fail
      go_roundw
      case rel => exact ⟨j + 1, by omega, by go_num, by rw [hsu.out]; first | go_num | (congr 1; omega), bthen hb hb2⟩
      case measure => simp [intOf]; omega
    · go_wp2_with fail
      go_ret
      have e : j = n := by omega
      subst e
      exact ⟨rfl, hb⟩
end Go.Proofs.Ytoeohebobmkobaa
