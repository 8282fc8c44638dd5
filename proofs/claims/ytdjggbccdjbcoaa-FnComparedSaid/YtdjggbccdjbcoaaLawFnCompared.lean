/- FnCompared: for all arguments the law returns true, and memory that was there is as it was. No condition. -/
import Derived.Test.YtdjggbccdjbcoaaRows
import Derived.Test.YtdjggbccdjbcoaaOpen
import Derived.Deep.RegionHeld3
import Derived.Deep.CutRange
import Derived.ShutString
import Derived.Test.YtdjggbccdjbcoaaOpenB
import Derived.Test.YtdjggbccdjbcoaaA2
import Derived.Test.YtdjggbccdjbcoaaODraw
import Derived.Test.YtdjggbccdjbcoaaCmpL
import Derived.Test.YtdjggbccdjbcoaaMark
namespace Go.Proofs.Ytdjggbccdjbcoaa.fnCompared
open Go.ChangeShapes Go.WideShapes Go.ChangeAt Go.RowKit
open Go.ChangeMaps (open_string shut_string)
set_option linter.unusedVariables false
set_option linter.unusedSimpArgs false
set_option linter.unnecessarySimpa false
set_option maxRecDepth 100000

theorem own : ownKnob Try.prog.godebug = none := by kernel_rfl
theorem laidOut : laidOutB Try.prog = true := by kernel_rfl

set_option maxHeartbeats 4000000 in
/-- The Go text returns true; memory has at most new blocks. -/
theorem walk (a0 : Option Addr) (c0 : Nat) (x0 : List UInt8) (a1 : Option Addr) (c1 : Nat) (x1 : List UInt8) (w : World) (hx0 : RB w a0 x0) (hm0 : x0.length ≤ maxLen) (hx1 : RB w a1 x1) (hm1 : x1.length ≤ maxLen) :
    Calls Try.prog 8 #[.slice a0 x0.length c0, .slice a1 x1.length c1] w fun e w' => e = .returned (.bool true) ∧ Below w.heap.size w w' := by
  by_cases hlong : 3000 < x0.length ∨ 3000 < x1.length
  · have hc := Lib.hid (laws_a2Long_yes a0 c0 x0.length a1 c1 x1.length w hm0 hm1 hlong)
    go_enter Try.func8, Try.ntmps8
    go_wp2_with (go_at_call 18; ((with_reducible refine hc.out.mono ?_); rintro e w' ⟨rfl, rfl⟩))
    go_ret
    exact ⟨rfl, Below.refl _ _⟩
  have hl0 : x0.length ≤ 3000 := by omega
  have hl1 : x1.length ≤ 3000 := by omega
  have hc := Lib.hid (laws_a2Long_no a0 c0 x0.length a1 c1 x1.length w hl0 hl1)
  clear hlong
  go_enter Try.func8, Try.ntmps8
  go_wp2_with (go_at_call 18; ((with_reducible refine hc.out.mono ?_); rintro e w' ⟨rfl, rfl⟩))
  refine (spec_A2Deck a0 c0 x0 _ hx0 (by omega)).mono ?_
  rintro e w1 ⟨a3, c3, n, xss, rfl, hl8, hn1, hn3, hP, hd, hb⟩
  have hB1 := Lib.hid hb
  have hP' := Lib.hid hP
  have hd' := Lib.hid hd
  clear hP hd hb hc
  generalize hN : xss.length = N at *
  have hN' := Lib.hid hN
  clear hN
  by_cases hlt : N < 3
  · have hlt' : (N : Int) < 3 := by omega
    go_wp2_with fail
    go_ret
    exact ⟨rfl, hB1.out⟩
  have hge : (3 : Int) ≤ (N : Int) := by omega
  have hg0 : (0 : Int) < (N : Int) := by omega
  have hq0 : 0 < N := by omega
  have hq1 : 1 < N := by omega
  have hq2 : 2 < N := by omega
  have hg1 : (1 : Int) < (N : Int) := by omega
  have hg2 : (2 : Int) < (N : Int) := by omega
  obtain ⟨xs, hxk⟩ := get_some (l := xss) (k := 0) (by rw [hN'.out]; omega)
  obtain ⟨ys, hyk⟩ := get_some (l := xss) (k := 1) (by rw [hN'.out]; omega)
  obtain ⟨zs, hzk⟩ := get_some (l := xss) (k := 2) (by rw [hN'.out]; omega)
  obtain ⟨b1, o1, ax, cx, rfl, hcx, hrx, hkx, _⟩ := hd'.out.at hxk
  obtain ⟨ay, cy, hcy, hry, hky, _⟩ := hd'.out.off hyk
  obtain ⟨az, cz, hcz, hrz, hkz, _⟩ := hd'.out.off hzk
  rw [Nat.add_zero] at hcx
  have px := Lib.hid (hP'.out xs (List.mem_of_getElem? hxk))
  have py := Lib.hid (hP'.out ys (List.mem_of_getElem? hyk))
  have pz := Lib.hid (hP'.out zs (List.mem_of_getElem? hzk))
  rw [px.out.1] at hcx
  rw [py.out.1] at hcy
  rw [pz.out.1] at hcz
  have hwn : widthN xss = n := by
    cases xss with
    | nil => simp at hxk
    | cons u v => simp only [List.getElem?_cons_zero, Option.some.injEq] at hxk; subst hxk; exact px.out.1
  have hfd := Lib.hid (fun U (hU : RDx U (some ⟨b1, o1, none⟩) xss) (hV : RB U a1 x1) => (show Calls Try.prog 20 #[.slice (some ⟨b1, o1, none⟩) N c3, .slice a1 x1.length c1] U fun e w' => ∃ f t : Nat, e = .returned (.agg #[.int .i64 f, .int .i64 t]) ∧ f < t ∧ t ≤ n ∧ Below U.heap.size U w' by
    have h := laws_a2Field (some ⟨b1, o1, none⟩) c3 xss a1 c1 x1 U hU (by rw [hN'.out]; unfold maxLen; omega) hV (by omega) (by rw [hwn]; omega) (by rw [hwn]; omega)
    rw [hN'.out, hwn] at h
    exact h))
  have hrx' := Lib.hid hrx
  have hry' := Lib.hid hry
  have hrz' := Lib.hid hrz
  have hfd1 := Lib.hid (hfd.out w1 hd'.out.RDx (hx1.kept hB1.out))
  clear hwn hxk hyk hzk hrx hry hrz hfd hlt
  go_wp2_with fail
  refine hfd1.out.mono ?_
  rintro e w2 ⟨f, t, rfl, hft, htn, hb⟩
  have ha := below_alloc (w := w2) (.cells #[.int .i64 f, .int .i64 t] 37)
  replace hcx := keep ha (keep hb hcx)
  replace hcy := keep ha (keep hb hcy)
  replace hcz := keep ha (keep hb hcz)
  have hcf0 : (w2.alloc (.cells #[.int .i64 f, .int .i64 t] 37)).cell? ⟨w2.heap.size, 0, none⟩ = some (.int .i64 f) := by simp [go_sem]
  have hcf1 : (w2.alloc (.cells #[.int .i64 f, .int .i64 t] 37)).cell? ⟨w2.heap.size, 1, none⟩ = some (.int .i64 t) := by simp [go_sem]
  have hrx := Lib.hid ((hrx'.out.kept hb).kept ha)
  have hry := Lib.hid ((hry'.out.kept hb).kept ha)
  have hrz := Lib.hid ((hrz'.out.kept hb).kept ha)
  have hB := Lib.hid (bthen (bthen hB1.out hb) ha)
  clear hb ha hfd1 hrx' hry' hrz' hd' hP' hB1
  have vld : ∀ us : List Int, LegalW n us → validCardL us = true := fun us h => by
    unfold validCardL
    rw [inB_true.2 ⟨by have := h.1; omega, by have := h.1; omega⟩, Bool.true_and, List.all_eq_true]
    exact fun u hu => inB_true.2 (h.2.2 u hu)
  obtain ⟨p, q, r, ⟨e1, g1⟩, ⟨e2, g2⟩, ⟨e3, g3⟩, ⟨e4, g4⟩, ⟨pb0, pb1⟩, hor⟩ := compared px.out.1 py.out.1 pz.out.1 hft htn (by omega) (vld xs px.out) (vld ys py.out) (vld zs pz.out) px.out.2.1 py.out.2.1 pz.out.2.1
  obtain ⟨y, hy⟩ : ∃ y, y = -p := ⟨_, rfl⟩
  have hyp : p = -y := by omega
  rw [← hy] at e2
  have hyb : -1 ≤ y ∧ y ≤ 1 := by omega
  have hyb0 := hyb.1
  have hyb1 := hyb.2
  have hneg := Lib.hid (show (p != -y) = false by rw [hyp]; simp)
  go_wp2_with fail
  generalize hW : (w2.alloc (.cells #[.int .i64 f, .int .i64 t] 37)) = W0 at *
  generalize hF : w2.heap.size = F at *
  clear hW hF
  have h01 := Lib.hid (fun U (hb : Below W0.heap.size W0 U) => (show Calls Try.prog 44 #[.agg #[.slice ax n cx], .agg #[.slice ay n cy], .agg #[.int .i64 f, .int .i64 t]] U fun e w' => e = .returned (.tuple #[.int .i64 p, .int .i64 0]) ∧ Below U.heap.size U w' by
    have h := impl_CompareFields ax cx xs ay cy ys f t U (hrx.out.kept hb) (hry.out.kept hb) (by rw [px.out.1]; omega) hkx (by rw [py.out.1]; omega) hky
    rw [e1, g1, px.out.1, py.out.1] at h
    exact h))
  have h10 := Lib.hid (fun U (hb : Below W0.heap.size W0 U) => (show Calls Try.prog 44 #[.agg #[.slice ay n cy], .agg #[.slice ax n cx], .agg #[.int .i64 f, .int .i64 t]] U fun e w' => e = .returned (.tuple #[.int .i64 y, .int .i64 0]) ∧ Below U.heap.size U w' by
    have h := impl_CompareFields ay cy ys ax cx xs f t U (hry.out.kept hb) (hrx.out.kept hb) (by rw [py.out.1]; omega) hky (by rw [px.out.1]; omega) hkx
    rw [e2, g2, py.out.1, px.out.1] at h
    exact h))
  have h12 := Lib.hid (fun U (hb : Below W0.heap.size W0 U) => (show Calls Try.prog 44 #[.agg #[.slice ay n cy], .agg #[.slice az n cz], .agg #[.int .i64 f, .int .i64 t]] U fun e w' => e = .returned (.tuple #[.int .i64 q, .int .i64 0]) ∧ Below U.heap.size U w' by
    have h := impl_CompareFields ay cy ys az cz zs f t U (hry.out.kept hb) (hrz.out.kept hb) (by rw [py.out.1]; omega) hky (by rw [pz.out.1]; omega) hkz
    rw [e3, g3, py.out.1, pz.out.1] at h
    exact h))
  have h02 := Lib.hid (fun U (hb : Below W0.heap.size W0 U) => (show Calls Try.prog 44 #[.agg #[.slice ax n cx], .agg #[.slice az n cz], .agg #[.int .i64 f, .int .i64 t]] U fun e w' => e = .returned (.tuple #[.int .i64 r, .int .i64 0]) ∧ Below U.heap.size U w' by
    have h := impl_CompareFields ax cx xs az cz zs f t U (hrx.out.kept hb) (hrz.out.kept hb) (by rw [px.out.1]; omega) hkx (by rw [pz.out.1]; omega) hkz
    rw [e4, g4, px.out.1, pz.out.1] at h
    exact h))
  have hs01 := Lib.hid (fun U (hb : Below W0.heap.size W0 U) => (show Calls Try.prog 45 #[.agg #[.slice ax n cx], .agg #[.slice ay n cy], .agg #[.int .i64 f, .int .i64 t]] U fun e w' => e = .returned (.tuple #[.int .i64 p, .int .i64 0]) ∧ Below U.heap.size U w' by
    have h := spec_CompareFields ax cx xs ay cy ys f t U (hrx.out.kept hb) (hry.out.kept hb) (by rw [px.out.1]; omega) hkx (by rw [py.out.1]; omega) hky
    rw [e1, g1, px.out.1, py.out.1] at h
    exact h))
  clear e1 e2 e3 e4 g1 g2 g3 g4 hy hyp hyb vld
  have hBW := Lib.hid (Below.refl W0.heap.size W0)
  (first | go_region_held3 (fun W => Below W0.heap.size W0 W ∧ W.cell? ⟨b1, o1, none⟩ = some (.slice ax n cx) ∧ W.cell? ⟨b1, o1 + 1, none⟩ = some (.slice ay n cy) ∧ W.cell? ⟨F, 0, none⟩ = some (.int .i64 f) ∧ W.cell? ⟨F, 1, none⟩ = some (.int .i64 t)) (first | exact held4 (below_drewN (Below.refl _ _) 1) hcx hcy hcf0 hcf1 | (rename Below W0.heap.size W0 _ ∧ _ => hH; refine held4 ?_ hcx hcy hcf0 hcf1; (refine bthen hH.1 ?_; assumption))) (first | (go_at_call 44; ((with_reducible refine (h01.out _ (bthen hBW.out (And.left ‹Below W0.heap.size W0 _ ∧ _›))).mono ?_); rintro e wq0 ⟨rfl, hbq⟩))) | fail)
  have hb := And.left ‹Below W0.heap.size W0 wq0 ∧ _›
  replace hcx := keep hb hcx
  replace hcy := keep hb hcy
  replace hcz := keep hb hcz
  replace hcf0 := keep hb hcf0
  replace hcf1 := keep hb hcf1
  replace hBW := Lib.hid (bthen hBW.out hb)
  clear hb
  obtain ⟨u1, hu_⟩ : ∃ u, u = wq0 := ⟨_, rfl⟩
  subst hu_
  go_wp2_with fail
  (first | go_region_held3 (fun W => Below u1.heap.size u1 W ∧ W.cell? ⟨b1, o1 + 1, none⟩ = some (.slice ay n cy) ∧ W.cell? ⟨b1, o1, none⟩ = some (.slice ax n cx) ∧ W.cell? ⟨F, 0, none⟩ = some (.int .i64 f) ∧ W.cell? ⟨F, 1, none⟩ = some (.int .i64 t)) (first | exact held4 (below_drewN (Below.refl _ _) 1) hcy hcx hcf0 hcf1 | (rename Below u1.heap.size u1 _ ∧ _ => hH; refine held4 ?_ hcy hcx hcf0 hcf1; (refine bthen hH.1 ?_; assumption))) (first | (go_at_call 44; ((with_reducible refine (h10.out _ (bthen hBW.out (And.left ‹Below u1.heap.size u1 _ ∧ _›))).mono ?_); rintro e wq0 ⟨rfl, hbq⟩))) | fail)
  have hb := And.left ‹Below u1.heap.size u1 wq0 ∧ _›
  replace hcx := keep hb hcx
  replace hcy := keep hb hcy
  replace hcz := keep hb hcz
  replace hcf0 := keep hb hcf0
  replace hcf1 := keep hb hcf1
  replace hBW := Lib.hid (bthen hBW.out hb)
  clear hb
  obtain ⟨u2, hu_⟩ : ∃ u, u = wq0 := ⟨_, rfl⟩
  subst hu_
  go_wp2_with fail
  (first | go_region_held3 (fun W => Below u2.heap.size u2 W ∧ W.cell? ⟨b1, o1 + 1, none⟩ = some (.slice ay n cy) ∧ W.cell? ⟨b1, o1 + 2, none⟩ = some (.slice az n cz) ∧ W.cell? ⟨F, 0, none⟩ = some (.int .i64 f) ∧ W.cell? ⟨F, 1, none⟩ = some (.int .i64 t)) (first | exact held4 (below_drewN (Below.refl _ _) 1) hcy hcz hcf0 hcf1 | (rename Below u2.heap.size u2 _ ∧ _ => hH; refine held4 ?_ hcy hcz hcf0 hcf1; (refine bthen hH.1 ?_; assumption))) (first | (go_at_call 44; ((with_reducible refine (h12.out _ (bthen hBW.out (And.left ‹Below u2.heap.size u2 _ ∧ _›))).mono ?_); rintro e wq0 ⟨rfl, hbq⟩))) | fail)
  have hb := And.left ‹Below u2.heap.size u2 wq0 ∧ _›
  replace hcx := keep hb hcx
  replace hcy := keep hb hcy
  replace hcz := keep hb hcz
  replace hcf0 := keep hb hcf0
  replace hcf1 := keep hb hcf1
  replace hBW := Lib.hid (bthen hBW.out hb)
  clear hb
  obtain ⟨u3, hu_⟩ : ∃ u, u = wq0 := ⟨_, rfl⟩
  subst hu_
  go_wp2_with fail
  (first | go_region_held3 (fun W => Below u3.heap.size u3 W ∧ W.cell? ⟨b1, o1, none⟩ = some (.slice ax n cx) ∧ W.cell? ⟨b1, o1 + 2, none⟩ = some (.slice az n cz) ∧ W.cell? ⟨F, 0, none⟩ = some (.int .i64 f) ∧ W.cell? ⟨F, 1, none⟩ = some (.int .i64 t)) (first | exact held4 (below_drewN (Below.refl _ _) 1) hcx hcz hcf0 hcf1 | (rename Below u3.heap.size u3 _ ∧ _ => hH; refine held4 ?_ hcx hcz hcf0 hcf1; (refine bthen hH.1 ?_; assumption))) (first | (go_at_call 44; ((with_reducible refine (h02.out _ (bthen hBW.out (And.left ‹Below u3.heap.size u3 _ ∧ _›))).mono ?_); rintro e wq0 ⟨rfl, hbq⟩))) | fail)
  have hb := And.left ‹Below u3.heap.size u3 wq0 ∧ _›
  replace hcx := keep hb hcx
  replace hcy := keep hb hcy
  replace hcz := keep hb hcz
  replace hcf0 := keep hb hcf0
  replace hcf1 := keep hb hcf1
  replace hBW := Lib.hid (bthen hBW.out hb)
  clear hb
  obtain ⟨u4, hu_⟩ : ∃ u, u = wq0 := ⟨_, rfl⟩
  subst hu_
  go_wp2_with fail
  (first | go_region_held3 (fun W => Below u4.heap.size u4 W ∧ W.cell? ⟨b1, o1, none⟩ = some (.slice ax n cx) ∧ W.cell? ⟨b1, o1 + 1, none⟩ = some (.slice ay n cy) ∧ W.cell? ⟨F, 0, none⟩ = some (.int .i64 f) ∧ W.cell? ⟨F, 1, none⟩ = some (.int .i64 t)) (first | exact held4 (below_drewN (Below.refl _ _) 1) hcx hcy hcf0 hcf1 | (rename Below u4.heap.size u4 _ ∧ _ => hH; refine held4 ?_ hcx hcy hcf0 hcf1; (refine bthen hH.1 ?_; assumption))) (first | (go_at_call 45; ((with_reducible refine (hs01.out _ (bthen hBW.out (And.left ‹Below u4.heap.size u4 _ ∧ _›))).mono ?_); rintro e wq0 ⟨rfl, hbq⟩))) | fail)
  have hb := And.left ‹Below u4.heap.size u4 wq0 ∧ _›
  replace hcx := keep hb hcx
  replace hcy := keep hb hcy
  replace hcz := keep hb hcz
  replace hcf0 := keep hb hcf0
  replace hcf1 := keep hb hcf1
  replace hBW := Lib.hid (bthen hBW.out hb)
  clear hb
  obtain ⟨u5, hu_⟩ : ∃ u, u = wq0 := ⟨_, rfl⟩
  subst hu_
  have hBe := Lib.hid (bthen hB.out hBW.out)
  have hpp : (p != p) = false := by simp
  have hnn := hneg.out
  by_cases h1 : 0 < p
  · go_wp2_with fail
    go_ret
    exact ⟨rfl, hBe.out⟩
  · by_cases h2 : 0 < q
    · go_wp2_with fail
      go_ret
      exact ⟨rfl, hBe.out⟩
    · have h3 : r ≤ 0 := by omega
      go_wp2_with fail
      go_ret
      exact ⟨rfl, hBe.out⟩

theorem lifted (os : Os) (started : os.Started) (H : Type) (enc : TypeId × Value → H) :
    ReturnsInHanded {} Try.checked os 8 .any (Rows.fnComparedSpec.pre6 enc Try.prog Try.f8 Rows.fnComparedRow.domain false) (Rows.fnComparedSpec.post enc Try.prog Try.f8 false true false false) := by
  refine returnsInHanded_of_change (C := Try.checked) own started (by kernel_rfl) Try.func8
    (ChangeSpec.witness6 (enc := enc) (C := Try.checked) false ⟨#[], #[.slice none 0 0, .slice none 0 0], []⟩ 8 (by kernel_rfl) (by kernel_rfl) (by kernel_rfl) (by kernel_rfl)) ?_
  intro W base args ds gs before hval0 hW hcnd _
  have hval : ∀ (j : Nat) t v, Try.f8.params[j]? = some t → args[j]? = some v → Value.okWide Try.prog W .any base t v := hval0
  have hW' := hW
  obtain ⟨p, q, hA0, hV, rfl, hfz, hnd⟩ := hW
  have hA : DataW.TrodAll enc Try.prog W 0 (fun _ => true) true Try.f8.params.toList args.toList ds p := hA0
  rw [Try.params8] at hA hval
  obtain ⟨v0, vs0, d0, ds0, p0, q0, hargs, rfl, rfl, h0, r0⟩ := trodAll_cons hA
  obtain ⟨v1, vs1, d1, ds1, p1, q1, rfl, rfl, rfl, h1, r1⟩ := trodAll_cons r0
  obtain ⟨rfl, rfl, rfl⟩ := trodAll_nil r1
  obtain rfl : args = #[v0, v1] := by cases args; simp_all
  obtain ⟨rfl, rfl⟩ := trodVars_none hV
  have k0 := h0
  have lt0 : ∀ x ∈ p0, x.block < W.heap.size := by obtain ⟨m, hm⟩ := k0; exact DataW.trod_lt m _ _ _ hm
  obtain ⟨a0, c0, x0, rfl, hx0, _, hm0⟩ := open_bytes Try.underlying44 Try.underlying5 (by kernel_rfl) (hval 0 44 v0 rfl rfl) h0
  replace hm0 : x0.length ≤ maxLen := by omega
  have k1 := h1
  have lt1 : ∀ x ∈ p1, x.block < W.heap.size := by obtain ⟨m, hm⟩ := k1; exact DataW.trod_lt m _ _ _ hm
  obtain ⟨a1, c1, x1, rfl, hx1, _, hm1⟩ := open_bytes Try.underlying44 Try.underlying5 (by kernel_rfl) (hval 1 44 v1 rfl rfl) h1
  replace hm1 : x1.length ≤ maxLen := by omega
  clear hA0 hval0
  refine (walk a0 c0 x0 a1 c1 x1 W hx0 hm0 hx1 hm1).mono fun e W' ⟨he, bel⟩ => ?_
  subst he
  exact ⟨_, rfl, _, _, _, [], _, [], hW', trodAll_mk1 (shut_bool Try.underlying4 _), (trodAll_cons_mk (Below.trod laidOut (by kernel_rfl) (of_decide_eq_true (by kernel_rfl)) k0 bel lt0) (trodAll_cons_mk (Below.trod laidOut (by kernel_rfl) (of_decide_eq_true (by kernel_rfl)) k1 bel lt1) trodAll_mk0)), rfl, bel.frame _, fun h => by cases h⟩

theorem over : Rows.fnComparedRow.holds Try.pinned (OpenSpec.ofChange Rows.fnComparedSpec) :=
  OpenClaim.holds_of_wide 8 Try.f8 rfl rfl rfl rfl rfl rfl rfl ⟨rfl, rfl, rfl, rfl, rfl⟩ rfl rfl rfl rfl rfl (by kernel_rfl) Try.func8 (by kernel_rfl)
    (of_decide_eq_true (by kernel_rfl)) (by unfold Func.isWrapper; first | (rw [if_pos (by decide +kernel)]; kernel_rfl) | (rw [if_neg (by decide +kernel)]; exact ⟨rfl, rfl⟩))
    (fun os started H enc _ => lifted os started H enc)

/-- The statement. -/
theorem proved : Rows.FnComparedSaid := over
#print axioms proved
end Go.Proofs.Ytdjggbccdjbcoaa.fnCompared
