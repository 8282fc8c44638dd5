/- The walks of the functions that punch a value of an item: what each returns, and that memory has at most new blocks. -/
import Derived.Test.YtmpfnkheohlmiaaGreatDoorQM
import Derived.Test.YtmpfnkheohlmiaaGreatDoorQX
import Derived.Test.YtmpfnkheohlmiaaGreatDoorQJ
import Derived.Test.YtmpfnkheohlmiaaGreatDoorQF
import Derived.Test.YtmpfnkheohlmiaaGreatDoorQE
import Derived.Laws.CopyOwn
import Derived.Deep.RegionHeld3
namespace Go.Proofs.YtmpfnkheohlmiaaGreatDoor
open Go.RowKit
set_option maxRecDepth 100000
set_option linter.unusedVariables false
set_option linter.unusedSimpArgs false
set_option linter.unnecessarySimpa false

theorem ends_suffix (s : ByteArray) : Lib.hasSuffix s.data.toList (⟨#[32]⟩ : ByteArray).data.toList = endsB s := by
  show Lib.hasSuffix s.data.toList [32] = _
  unfold Lib.hasSuffix endsB
  rcases List.eq_nil_or_concat s.data.toList with h | ⟨r, c, h⟩
  · rw [h]; rfl
  · rw [h]
    simp [List.isSuffixOf, List.isPrefixOf]
    exact Bool.eq_iff_iff.2 (by simp only [beq_iff_eq]; exact eq_comm)
theorem take_splice {X N : List Value} {f n : Nat} (h : f + N.length ≤ n) (hX : n ≤ X.length) : (X.take f ++ N ++ X.drop (f + N.length)).take n = splice (X.take n) f N := by
  unfold splice
  rw [List.take_append, List.take_of_length_le (by rw [List.length_append, List.length_take]; omega), List.length_append, List.length_take, List.append_assoc]
  rw [List.take_take, Nat.min_eq_left (by omega : f ≤ n), Nat.min_eq_left (by omega : f ≤ X.length), List.drop_take]
theorem within_row {lo hi g : Nat} (w : World) (h1 : lo ≤ g) (h2 : g < hi) (cs : Array Value) : Within lo hi w (w.setRow g cs) :=
  ⟨rfl, rfl, rfl, by simp [World.setRow], fun k hk hn => setRow_other w g k cs (fun e => hn (by omega))⟩
section
variable {P : Program}
/-- copy into a row of the call's own: no other block turns -/
theorem step_copy_ov {ops : Array Oper} {o : Oper} {a : Act} {w : World} {K : Act → World → Prop} {Q : Exit → Act → World → Prop} {E : Prop} (hgd : o.guard = none) (d s : Operand) (dT sT : TypeId)
    (ho : o.op = .call { callee := .builtin .copy, args := #[d, s], argTypes := #[dT, sT] }) (elem : TypeId) (hu : P.underlying dT = some (.slice elem)) (hsz : (P.info? elem).map (·.size) = some 1)
    (g lo hi n c f q : Nat) (vs : List Value) (hov : OV lo hi w elem 1 (some ⟨g, 0, none⟩) n c vs) (dLen dCap : Nat) (hd : a.eval d = .slice (some ⟨g, q, none⟩) dLen dCap) (hq : q = f)
    (A : Option Addr) (m sCap : Nat) (hs : a.eval s = .slice A m sCap) (news : List Value) (hr : Row w A news) (hl : news.length = m) (hmd : m ≤ dLen) (hfit : f + m ≤ n) (h1 : ∀ v ∈ news, v.oneCell' = true)
    (h : ∀ w', OV lo hi w' elem 1 (some ⟨g, 0, none⟩) n c (splice vs f news) → Within lo hi w w' → K (a.put o.dst (goInt m)) w') :
    if Region.wanted o (yielded ops a.tmps) = true then Oper.wp P o a w K Q else E := by
  have hw : Region.wanted o (yielded ops a.tmps) = true := by simp [Region.wanted, hgd]
  rw [if_pos hw]
  subst hq
  subst hl
  obtain ⟨hvl, ⟨hv, _⟩ | ⟨g', cap, cur, hv, hlo, hcur, hnc, hcm, hcs, htk⟩⟩ := hov.1
  · cases hv
  simp only [Value.slice.injEq, Option.some.injEq, Addr.mk.injEq] at hv
  obtain ⟨⟨rfl, _, _⟩, _, rfl⟩ := hv
  rw [Nat.mul_one] at hvl htk hcs
  have hg2 := hov.2 _ rfl
  by_cases h0 : news.length = 0
  · obtain rfl : news = [] := List.eq_nil_of_length_eq_zero h0
    have hrun := run_copy_none (P := P) w dT sT o.type elem (some ⟨g, q, none⟩) A dLen dCap 0 sCap hu hsz (by simp)
    unfold Oper.wp execOp
    simp only [ho, resolve, invoke, builtin, Sem.run_bind, Sem.run_pure, Result.andThen_ok, List.map_toArray, List.map_cons, List.map_nil, hd, hs, List.length_nil, hrun]
    exact h w (by unfold splice; simpa using hov) (Within.refl _ _ _)
  · obtain ⟨x, r, rfl⟩ : ∃ x r, news = x :: r := by
      cases news with
      | nil => exact absurd rfl h0
      | cons x r => exact ⟨x, r, rfl⟩
    obtain ⟨b, off, rfl, _⟩ := hr.at (j := 0) (v := x) rfl
    have hsrc : ∀ j v, (x :: r)[j]? = some v → w.cell? ((⟨b, off, none⟩ : Addr).add j) = some v := Row.add hr
    have hrun := run_copy_row (P := P) w dT sT o.type elem g q dLen dCap ⟨b, off, none⟩ (x :: r).length sCap cur elem (x :: r) hu hsz hcur (Nat.min_eq_left hmd).symm hsrc (by rw [hcs]; omega) h1
    unfold Oper.wp execOp
    simp only [ho, resolve, invoke, builtin, Sem.run_bind, Sem.run_pure, Result.andThen_ok, List.map_toArray, List.map_cons, List.map_nil, hd, hs, hrun]
    refine h _ ⟨⟨by rw [← htk, ← take_splice hfit (by rw [Array.length_toList, hcs]; exact hnc)]; rw [List.length_take]; simp; omega, .inr ⟨g, c, _, rfl, hlo, setRow_heap w g _ _ elem _ hcur, hnc, hcm, ?_, ?_⟩⟩, hov.2⟩ (within_row w hlo hg2 _)
    · rw [Nat.mul_one] at *; simp only [List.size_toArray, List.length_append, List.length_take, List.length_drop, Array.length_toList]; omega
    · rw [Nat.mul_one, ← htk]
      exact take_splice hfit (by rw [Array.length_toList, hcs]; exact hnc)
end
theorem splice_put (xs l : List Int) (f : Nat) : splice (xs.map (Value.int .i64)) f (l.map (Value.int .i64)) = (putL xs f l).map (Value.int .i64) := by
  unfold splice putL; simp
set_option maxHeartbeats 4000000 in
theorem impl_punchValue (a : Option Addr) (c : Nat) (ys : List Int) (x : Itm) (s : ByteArray) (w : World) (hy : RI w a ys) (hn : ys.length ≤ 1048576) (hq : fieldB x.fr x.to ys.length = true) (hs : s.size ≤ 1048576) (ht : Pow10 w) (he : Errs w) :
    Calls Tryz.prog 33 #[.agg #[.slice a ys.length c], .agg #[.string x.name, .int .i64 x.kind, .int .i64 x.fr, .int .i64 x.to], .string s] w fun e w' => ∃ a' c', e = .returned (.tuple #[.agg #[.slice a' (pvR ys x s).length c'], .int .i64 (pvCode x s)]) ∧ w'.ownsRow w.heap.size 2 1 (.slice a' (pvR ys x s).length c') (pvR ys x s).length ((pvR ys x s).map (Value.int .i64)) ∧ Below w.heap.size w w' := by
  obtain ⟨nm, kd, f, t⟩ := x
  obtain ⟨q1, q2, q3⟩ := fieldB_yes hq
  simp only at q1 q2 q3 hq ⊢
  obtain ⟨f, rfl⟩ := Int.eq_ofNat_of_zero_le q1
  obtain ⟨tt, htt⟩ : ∃ tt : Nat, t = ((tt + 1 : Nat) : Int) := ⟨(t - 1).toNat, by omega⟩
  obtain ⟨wd, hwd⟩ : ∃ wd : Nat, t - (f : Int) = (wd : Int) := ⟨(t - f).toNat, by omega⟩
  have hwd1 : 1 ≤ wd := by omega
  have hwdl : f + wd ≤ ys.length := by omega
  have hsx : Hid (sizeX ⟨nm, kd, (f : Int), t⟩ = wd) := Lib.hid (by unfold sizeX; simp only; omega)
  have hwx := Lib.hid (show tt + 1 - f = wd by omega)
  have htf := Lib.hid (show t - (f : Int) = (wd : Int) from hwd)
  have htw : IntKind.i64.wrap (t - (f : Int)) = (wd : Int) := by rw [hwd]; exact IntWalk.i64_in _ (by omega)
  have hb3 := Lib.hid (below_alloc3 w (.cells #[.slice a ys.length c] 32) (.cells #[.string nm, .int .i64 kd, .int .i64 f, .int .i64 t] 63) (.cells #[.slice none 0 0] 32))
  have hpn := Lib.hid (fun (n : Int) (hn0 : -999999999999 ≤ n) (hn1 : n ≤ 999999999999) U (hU : RI U a ys) => (show Calls Tryz.prog 77 #[.agg #[.slice a ys.length c], .agg #[.int .i64 f, .int .i64 t], .int .i64 n] U fun e w' => ∃ a' c', e = .returned (.agg #[.slice a' ys.length c']) ∧ w'.ownsRow U.heap.size 2 1 (.slice a' ys.length c') ys.length ((putL ys f (numL wd n.natAbs (decide (n < 0)))).map (Value.int .i64)) ∧ Below U.heap.size U w' by
    have h := impl_punchNumber a c ys f tt n U hU hn (by omega) (by omega) hn0 hn1
    rw [hwx.out] at h
    rw [htt]; exact h))
  clear htt hwd q1 q2 q3
  cases hk : (kd == 2)
  · -- a text
    have har := Lib.hid (fun W => impl_areCharacters s (small hs) W)
    cases h1 : charsB s
    · have hf := Lib.hid (pvt_7 (x := ⟨nm, kd, (f : Int), t⟩) ys hk h1)
      rw [h1] at har
      have hB := hb3
      go_enter Tryz.func33, Tryz.ntmps33
      go_wp2_with (go_at_call 78; ((with_reducible refine (har.out _).mono ?_); rintro e w' ⟨rfl, rfl⟩))
      refine bodyPost_ret (v := .tuple #[.agg #[.slice none 0 0], .int .i64 7]) (by simp [results, Tryz.results33, go_sem, *]) rfl ⟨none, 0, by rw [hf.out.1, hf.out.2.2]; rfl, by rw [hf.out.2.2]; exact World.ownsRow_nil _ _ _ _, ?_⟩
      first | exact hB.out | exact hB.out.setCell (by dsimp only; omega) _
    · rw [h1] at har
      have hsf := Lib.hid (fun W => (show Calls Tryz.prog 79 #[.string s, .string ⟨#[32]⟩] W fun e w' => e = .returned (.bool (endsB s)) ∧ w' = W by
        have h := Tryz.strings_HasSuffix s ⟨#[32]⟩ W (by omega)
        rw [ends_suffix] at h; exact h))
      cases h2 : endsB s
      · rw [h2] at hsf
        by_cases h3 : wd < s.size
        · have hf := Lib.hid (pvt_5 (x := ⟨nm, kd, (f : Int), t⟩) ys hk h1 h2 (by show t - (f : Int) < _; rw [htf.out]; omega))
          have h3' : (wd : Int) < (s.size : Int) := by omega
          have hB := hb3
          go_enter Tryz.func33, Tryz.ntmps33
          go_wp2_with (first | (go_at_call 78; ((with_reducible refine (har.out _).mono ?_); rintro e w' ⟨rfl, rfl⟩)) | (go_at_call 79; ((with_reducible refine (hsf.out _).mono ?_); rintro e w' ⟨rfl, rfl⟩)))
          refine bodyPost_ret (v := .tuple #[.agg #[.slice none 0 0], .int .i64 5]) (by simp [results, Tryz.results33, go_sem, *]) rfl ⟨none, 0, by rw [hf.out.1, hf.out.2.2]; rfl, by rw [hf.out.2.2]; exact World.ownsRow_nil _ _ _ _, ?_⟩
          first | exact hB.out | exact hB.out.setCell (by dsimp only; omega) _
        · have hf := Lib.hid (pvt_0 (x := ⟨nm, kd, (f : Int), t⟩) ys hk h1 h2 (by show ¬ t - (f : Int) < _; rw [htf.out]; omega))
          rw [hsx.out, Int.toNat_natCast] at hf
          have h3' : ¬ (wd : Int) < (s.size : Int) := by omega
          have hnc := Lib.hid (fun U (hU : RI U a ys) => impl_newCard a c ys U hU hn)
          have hpt := Lib.hid (fun U => impl_punchText s wd U (by omega) (by omega))
          have hfd : ∀ (q : Option Addr) (n d : Nat) (W : World), (Instr.field 32 (.agg #[.slice q n d]) 0).run Tryz.prog W = .ok (.slice q n d) W := fun _ _ _ _ => by kernel_rfl
          have hpl := Lib.hid (punchUp_length s (n := wd) (k := s.size) (Nat.le_refl _) (by omega))
          have hlen := Lib.hid (putL_length (xs := ys) (l := punchUp s wd s.size) (f := f) (by rw [hpl.out]; exact hwdl))
          go_enter Tryz.func33, Tryz.ntmps33
          go_wp2_with (first | (go_at_call 78; ((with_reducible refine (har.out _).mono ?_); rintro e w' ⟨rfl, rfl⟩)) | (go_at_call 79; ((with_reducible refine (hsf.out _).mono ?_); rintro e w' ⟨rfl, rfl⟩)))
          refine (hnc.out _ (hy.kept hb3.out)).mono ?_
          rintro e w2 ⟨a2, c2, rfl, hown, hb⟩
          (have hc0 := keep (p := ⟨w.heap.size + 1, 2, none⟩) (v := .int .i64 f) hb (by simp [go_sem, *]); have hf0 := keepf (p := ⟨w.heap.size + 1, 2, none⟩) (v := .int .i64 f) hb (by simp [go_sem, *]) (by simp [go_sem, *]); have hl0 := World.block_lt_of_cell? _ _ hc0; have hc1 := keep (p := ⟨w.heap.size + 1 + 1, 0, none⟩) (v := .slice none 0 0) hb (by simp [go_sem, *]); have hf1 := keepf (p := ⟨w.heap.size + 1 + 1, 0, none⟩) (v := .slice none 0 0) hb (by simp [go_sem, *]) (by simp [go_sem, *]); have hl1 := World.block_lt_of_cell? _ _ hc1)
          have hB := Lib.hid (bthen hb3.out hb)
          have hlw : w.heap.size + 1 + 1 < w2.heap.size := hl1
          have ho := Lib.hid (OV.of (own_mono (B := w.heap.size + 3) hown (by first | omega | simp)))
          obtain ⟨g, rfl, hg1, hg2⟩ := ho.out.addr (by omega)
          have hcap : ys.length ≤ c2 := by obtain ⟨_, _, hv, _, h4, _⟩ := own_slice hown; simp only [Value.slice.injEq] at hv; omega
          have hfc : f ≤ c2 := by omega
          have hfn : f ≤ ys.length := by omega
          have hcf : ¬ c2 = f := by omega
          clear hown hb
          have hba := below_alloc (w := w2) (.cells #[.slice (some ⟨g, 0, none⟩) ys.length c2] 32)
          have hcO : (w2.alloc (.cells #[.slice (some ⟨g, 0, none⟩) ys.length c2] 32)).cell? ⟨w2.heap.size, 0, none⟩ = some (.slice (some ⟨g, 0, none⟩) ys.length c2) := by simp [go_sem]
          have hcf0 := keep hba hc0
          have hcr := keep hba hc1
          have hfr := keepf hba hc1 hf1
          have hB2 := Lib.hid (bthen hB.out hba)
          have ho2 := Lib.hid (ho.out.kept hba)
          clear hba hc0 hc1 hf0 hf1 hl0 hl1
          go_wp2_with fail
          generalize hW : (w2.alloc (.cells #[.slice (some ⟨g, 0, none⟩) ys.length c2] 32)) = W at *
          clear hW
          have hS := Lib.hid (fun (V : World) (h : Within (w.heap.size + 3) w2.heap.size W V) => And.intro h (And.intro (h.cell hcO (Or.inr (Nat.le_refl _))) (h.cell hcf0 (Or.inl (by dsimp only; omega)))))
          have hd1 := Lib.hid (below_drewN (Below.refl W.heap.size W) 1)
          have hoA := Lib.hid (fun (V : World) (hb : Below (W.drewN 1).heap.size (W.drewN 1) V) => ho2.out.kept (bthen hd1.out hb))
          have hWA := Lib.hid (fun (V : World) (hb : Below (W.drewN 1).heap.size (W.drewN 1) V) => (Within.of_below (bthen hd1.out hb) : Within (w.heap.size + 3) w2.heap.size W V))
          first | go_region_held3 (fun V => Within (w.heap.size + 3) w2.heap.size W V ∧ V.cell? ⟨w2.heap.size, 0, none⟩ = some (.slice (some ⟨g, 0, none⟩) ys.length c2) ∧ V.cell? ⟨w.heap.size + 1, 2, none⟩ = some (.int .i64 f)) (first | exact hS.out _ (hWA.out _ (Below.refl _ _)) | (refine hS.out _ ?_; assumption)) (first | (go_at_call 81; (refine (hpt.out _).mono ?_); rintro e wq0 ⟨a5, c5, rfl, hown5, hbq0⟩; have hW1 := hWA.out _ hbq0; have hr5 := Lib.hid (own_slice hown5)) | (refine step_copy_ov rfl _ _ 30 30 rfl 2 Tryz.underlying30 (by kernel_rfl) g (w.heap.size + 3) w2.heap.size ys.length c2 f _ (ys.map (Value.int .i64)) (hoA.out _ hbq0) _ _ rfl (by first | rfl | simp) a5 wd c5 rfl ((punchUp s wd s.size).map (Value.int .i64)) (by obtain ⟨_, _, hv, hr, _⟩ := hr5.out; simp only [Value.slice.injEq] at hv; obtain ⟨rfl, _, _⟩ := hv; exact hr) (by rw [List.length_map]; exact hpl.out) (by omega) hwdl (ints_one _) ?_; intro w6 hov6 hwi6; have hW2 : Within (w.heap.size + 3) w2.heap.size W w6 := hW1.trans hwi6; have hov6' := Lib.hid hov6; clear hov6)) | fail
          all_goals
            have hcO6 := hW2.cell hcO (Or.inr (Nat.le_refl _))
            have hcr6 := hW2.cell hcr (Or.inl (by dsimp only; omega))
            have hfr6 := hW2.frozen hcr hfr (Or.inl (by dsimp only; omega))
            have hlr6 := World.block_lt_of_cell? _ _ hcr6
            have hne1 : ¬ w.heap.size + 1 + 1 = w2.heap.size := by omega
            go_wp2_with fail
            refine bodyPost_ret (v := .tuple #[.agg #[.slice (some ⟨g, 0, none⟩) ys.length c2], .int .i64 0]) (by simp [results, Tryz.results33, go_sem, *]) rfl ⟨some ⟨g, 0, none⟩, c2, by rw [hf.out.1, hf.out.2.2, hlen.out], ?_, (hW2.below hB2.out (by omega) hB2.out.size).setCell (by dsimp only; omega) _⟩
            rw [hf.out.2.2, hlen.out, ← splice_put]
            exact own_mono (ownsRow_setCell_below hov6'.out.1 (by dsimp only; omega) _) (by omega)
      · have hf := Lib.hid (pvt_e (x := ⟨nm, kd, (f : Int), t⟩) ys hk h1 h2)
        rw [h2] at hsf
        have hB := hb3
        go_enter Tryz.func33, Tryz.ntmps33
        go_wp2_with (first | (go_at_call 78; ((with_reducible refine (har.out _).mono ?_); rintro e w' ⟨rfl, rfl⟩)) | (go_at_call 79; ((with_reducible refine (hsf.out _).mono ?_); rintro e w' ⟨rfl, rfl⟩)))
        refine bodyPost_ret (v := .tuple #[.agg #[.slice none 0 0], .int .i64 7]) (by simp [results, Tryz.results33, go_sem, *]) rfl ⟨none, 0, by rw [hf.out.1, hf.out.2.2]; rfl, by rw [hf.out.2.2]; exact World.ownsRow_nil _ _ _ _, ?_⟩
        first | exact hB.out | exact hB.out.setCell (by dsimp only; omega) _
  · -- a number
    have hrd := Lib.hid (fun (W : World) (hb : Below w.heap.size w W) => impl_ReadDecimal s W hs (TabIs.kept ht hb) (Errs.kept he hb))
    cases h1 : readL s.data.toList
    · have hf := Lib.hid (pvn_7 (x := ⟨nm, kd, (f : Int), t⟩) ys hk (by unfold numOk; rw [h1]; rfl))
      rw [h1] at hrd
      generalize readI s.data.toList = n at *
      go_enter Tryz.func33, Tryz.ntmps33
      go_wp2_with fail
      refine (hrd.out _ hb3.out).mono ?_
      rintro e w2 ⟨rfl, hb⟩
      (have hc0 := keep (p := ⟨w.heap.size + 1 + 1, 0, none⟩) (v := .slice none 0 0) hb (by simp [go_sem, *]); have hf0 := keepf (p := ⟨w.heap.size + 1 + 1, 0, none⟩) (v := .slice none 0 0) hb (by simp [go_sem, *]) (by simp [go_sem, *]); have hl0 := World.block_lt_of_cell? _ _ hc0)
      have hB := Lib.hid (bthen hb3.out hb)
      clear hb
      go_wp2_with fail
      refine bodyPost_ret (v := .tuple #[.agg #[.slice none 0 0], .int .i64 7]) (by simp [results, Tryz.results33, go_sem, *]) rfl ⟨none, 0, by rw [hf.out.1, hf.out.2.2]; rfl, by rw [hf.out.2.2]; exact World.ownsRow_nil _ _ _ _, ?_⟩
      first | exact hB.out | exact hB.out.setCell (by dsimp only; omega) _
    · rw [h1] at hrd
      have hnum := Lib.hid (fun (q : Bool) (h : inB (readI s.data.toList) (-999999999999) 999999999999 = q) => (show numOk s = q by unfold numOk; rw [h1, h]; rfl))
      have hg5 := Lib.hid (fun (h : inB (readI s.data.toList) (-999999999999) 999999999999 = true) h2 => pvn_5 (x := ⟨nm, kd, (f : Int), t⟩) ys hk (hnum.out _ h) h2)
      have hg0 := Lib.hid (fun (h : inB (readI s.data.toList) (-999999999999) 999999999999 = true) h2 => pvn_0 (x := ⟨nm, kd, (f : Int), t⟩) ys hk (hnum.out _ h) h2)
      have hg7 := Lib.hid (fun (h : inB (readI s.data.toList) (-999999999999) 999999999999 = false) => pvn_7 (x := ⟨nm, kd, (f : Int), t⟩) ys hk (hnum.out _ h))
      clear hnum
      generalize readI s.data.toList = n at *
      cases h2 : inB n (-999999999999) 999999999999
      · have hf := Lib.hid (hg7.out h2)
        go_enter Tryz.func33, Tryz.ntmps33
        go_wp2_with fail
        refine (hrd.out _ hb3.out).mono ?_
        rintro e w2 ⟨rfl, hb⟩
        (have hc0 := keep (p := ⟨w.heap.size + 1 + 1, 0, none⟩) (v := .slice none 0 0) hb (by simp [go_sem, *]); have hf0 := keepf (p := ⟨w.heap.size + 1 + 1, 0, none⟩) (v := .slice none 0 0) hb (by simp [go_sem, *]) (by simp [go_sem, *]); have hl0 := World.block_lt_of_cell? _ _ hc0)
        have hB := Lib.hid (bthen hb3.out hb)
        clear hb
        go_wp2_with (go_at_call 74; ((with_reducible refine (impl_isCardNumber _ _).mono ?_); rintro e w' ⟨rfl, rfl⟩))
        refine bodyPost_ret (v := .tuple #[.agg #[.slice none 0 0], .int .i64 7]) (by simp [results, Tryz.results33, go_sem, *]) rfl ⟨none, 0, by rw [hf.out.1, hf.out.2.2]; rfl, by rw [hf.out.2.2]; exact World.ownsRow_nil _ _ _ _, ?_⟩
        first | exact hB.out | exact hB.out.setCell (by dsimp only; omega) _
      · obtain ⟨n0, n1⟩ := inB_true.1 h2
        replace hg5 := Lib.hid (hg5.out h2)
        replace hg0 := Lib.hid (hg0.out h2)
        replace hpn := Lib.hid (hpn.out n n0 n1)
        have hab := Lib.hid (fun U => impl_absOf n U n0 n1)
        have hdg := Lib.hid (fun U (hU : Pow10 U) => impl_digitsOf n.natAbs U (by omega) hU)
        have hl20 := Lib.nDigits_le20 n.natAbs (by omega)
        rw [hsx.out] at hg5 hg0
        rw [Int.toNat_natCast] at hg0
        clear hg7
        by_cases hfit : Lib.nDigits n.natAbs ≤ wd
        · have hf := Lib.hid (hg0.out hfit)
          have hlen := Lib.hid (putL_length (xs := ys) (l := numL wd n.natAbs (decide (n < 0))) (f := f) (by rw [numL_length]; exact hwdl))
          generalize Lib.nDigits n.natAbs = D at *
          have hcmp : ¬ (wd : Int) < (D : Int) := by omega
          clear hfit hg5 hg0
          go_enter Tryz.func33, Tryz.ntmps33
          go_wp2_with fail
          refine (hrd.out _ hb3.out).mono ?_
          rintro e w2 ⟨rfl, hb⟩
          (have hc0 := keep (p := ⟨w.heap.size, 0, none⟩) (v := .slice a ys.length c) hb (by simp [go_sem, *]); have hf0 := keepf (p := ⟨w.heap.size, 0, none⟩) (v := .slice a ys.length c) hb (by simp [go_sem, *]) (by simp [go_sem, *]); have hl0 := World.block_lt_of_cell? _ _ hc0; have hc1 := keep (p := ⟨w.heap.size + 1, 1, none⟩) (v := .int .i64 kd) hb (by simp [go_sem, *]); have hf1 := keepf (p := ⟨w.heap.size + 1, 1, none⟩) (v := .int .i64 kd) hb (by simp [go_sem, *]) (by simp [go_sem, *]); have hl1 := World.block_lt_of_cell? _ _ hc1; have hc2 := keep (p := ⟨w.heap.size + 1, 2, none⟩) (v := .int .i64 f) hb (by simp [go_sem, *]); have hf2 := keepf (p := ⟨w.heap.size + 1, 2, none⟩) (v := .int .i64 f) hb (by simp [go_sem, *]) (by simp [go_sem, *]); have hl2 := World.block_lt_of_cell? _ _ hc2; have hc3 := keep (p := ⟨w.heap.size + 1, 3, none⟩) (v := .int .i64 t) hb (by simp [go_sem, *]); have hf3 := keepf (p := ⟨w.heap.size + 1, 3, none⟩) (v := .int .i64 t) hb (by simp [go_sem, *]) (by simp [go_sem, *]); have hl3 := World.block_lt_of_cell? _ _ hc3; have hc4 := keep (p := ⟨w.heap.size + 1 + 1, 0, none⟩) (v := .slice none 0 0) hb (by simp [go_sem, *]); have hf4 := keepf (p := ⟨w.heap.size + 1 + 1, 0, none⟩) (v := .slice none 0 0) hb (by simp [go_sem, *]) (by simp [go_sem, *]); have hl4 := World.block_lt_of_cell? _ _ hc4)
          have hB := Lib.hid (bthen hb3.out hb)
          clear hb
          go_wp2_with (first | (go_at_call 74; ((with_reducible refine (impl_isCardNumber _ _).mono ?_); rintro e w' ⟨rfl, rfl⟩)) | (go_at_call 76; ((with_reducible refine (hab.out _).mono ?_); rintro e w' ⟨rfl, rfl⟩)))
          refine (hdg.out _ (Pow10.kept ht hB.out)).mono ?_
          rintro e w3 ⟨rfl, hb⟩
          (replace hf0 := keepf hb hc0 hf0; replace hc0 := keep hb hc0; replace hl0 := World.block_lt_of_cell? _ _ hc0; replace hf1 := keepf hb hc1 hf1; replace hc1 := keep hb hc1; replace hl1 := World.block_lt_of_cell? _ _ hc1; replace hf2 := keepf hb hc2 hf2; replace hc2 := keep hb hc2; replace hl2 := World.block_lt_of_cell? _ _ hc2; replace hf3 := keepf hb hc3 hf3; replace hc3 := keep hb hc3; replace hl3 := World.block_lt_of_cell? _ _ hc3; replace hf4 := keepf hb hc4 hf4; replace hc4 := keep hb hc4; replace hl4 := World.block_lt_of_cell? _ _ hc4)
          replace hB := Lib.hid (bthen hB.out hb)
          clear hb
          go_wp2_with fail
          refine (hpn.out _ (hy.kept hB.out)).mono ?_
          rintro e w4 ⟨a5, c5, rfl, hown, hb⟩
          have hlr : w.heap.size + 1 + 1 < w3.heap.size := hl4
          (replace hf0 := keepf hb hc0 hf0; replace hc0 := keep hb hc0; replace hl0 := World.block_lt_of_cell? _ _ hc0; replace hf1 := keepf hb hc1 hf1; replace hc1 := keep hb hc1; replace hl1 := World.block_lt_of_cell? _ _ hc1; replace hf2 := keepf hb hc2 hf2; replace hc2 := keep hb hc2; replace hl2 := World.block_lt_of_cell? _ _ hc2; replace hf3 := keepf hb hc3 hf3; replace hc3 := keep hb hc3; replace hl3 := World.block_lt_of_cell? _ _ hc3; replace hf4 := keepf hb hc4 hf4; replace hc4 := keep hb hc4; replace hl4 := World.block_lt_of_cell? _ _ hc4)
          replace hB := Lib.hid (bthen hB.out hb)
          have hown' := Lib.hid hown
          have hz := hb.size
          clear hb hown
          go_wp2_with fail
          refine bodyPost_ret (v := .tuple #[.agg #[.slice a5 ys.length c5], .int .i64 0]) (by simp [results, Tryz.results33, go_sem, *]) rfl ⟨a5, c5, by rw [hf.out.1, hf.out.2.2, hlen.out], ?_, hB.out.setCell (by dsimp only; omega) _⟩
          rw [hf.out.2.2, hlen.out]
          exact own_mono (ownsRow_setCell_below hown'.out (by dsimp only; omega) _) (by omega)
        · have hf := Lib.hid (hg5.out hfit)
          generalize Lib.nDigits n.natAbs = D at *
          have hcmp : (wd : Int) < (D : Int) := by omega
          clear hfit hg5 hg0
          go_enter Tryz.func33, Tryz.ntmps33
          go_wp2_with fail
          refine (hrd.out _ hb3.out).mono ?_
          rintro e w2 ⟨rfl, hb⟩
          (have hc0 := keep (p := ⟨w.heap.size, 0, none⟩) (v := .slice a ys.length c) hb (by simp [go_sem, *]); have hf0 := keepf (p := ⟨w.heap.size, 0, none⟩) (v := .slice a ys.length c) hb (by simp [go_sem, *]) (by simp [go_sem, *]); have hl0 := World.block_lt_of_cell? _ _ hc0; have hc1 := keep (p := ⟨w.heap.size + 1, 1, none⟩) (v := .int .i64 kd) hb (by simp [go_sem, *]); have hf1 := keepf (p := ⟨w.heap.size + 1, 1, none⟩) (v := .int .i64 kd) hb (by simp [go_sem, *]) (by simp [go_sem, *]); have hl1 := World.block_lt_of_cell? _ _ hc1; have hc2 := keep (p := ⟨w.heap.size + 1, 2, none⟩) (v := .int .i64 f) hb (by simp [go_sem, *]); have hf2 := keepf (p := ⟨w.heap.size + 1, 2, none⟩) (v := .int .i64 f) hb (by simp [go_sem, *]) (by simp [go_sem, *]); have hl2 := World.block_lt_of_cell? _ _ hc2; have hc3 := keep (p := ⟨w.heap.size + 1, 3, none⟩) (v := .int .i64 t) hb (by simp [go_sem, *]); have hf3 := keepf (p := ⟨w.heap.size + 1, 3, none⟩) (v := .int .i64 t) hb (by simp [go_sem, *]) (by simp [go_sem, *]); have hl3 := World.block_lt_of_cell? _ _ hc3; have hc4 := keep (p := ⟨w.heap.size + 1 + 1, 0, none⟩) (v := .slice none 0 0) hb (by simp [go_sem, *]); have hf4 := keepf (p := ⟨w.heap.size + 1 + 1, 0, none⟩) (v := .slice none 0 0) hb (by simp [go_sem, *]) (by simp [go_sem, *]); have hl4 := World.block_lt_of_cell? _ _ hc4)
          have hB := Lib.hid (bthen hb3.out hb)
          clear hb
          go_wp2_with (first | (go_at_call 74; ((with_reducible refine (impl_isCardNumber _ _).mono ?_); rintro e w' ⟨rfl, rfl⟩)) | (go_at_call 76; ((with_reducible refine (hab.out _).mono ?_); rintro e w' ⟨rfl, rfl⟩)))
          refine (hdg.out _ (Pow10.kept ht hB.out)).mono ?_
          rintro e w3 ⟨rfl, hb⟩
          (replace hf0 := keepf hb hc0 hf0; replace hc0 := keep hb hc0; replace hl0 := World.block_lt_of_cell? _ _ hc0; replace hf1 := keepf hb hc1 hf1; replace hc1 := keep hb hc1; replace hl1 := World.block_lt_of_cell? _ _ hc1; replace hf2 := keepf hb hc2 hf2; replace hc2 := keep hb hc2; replace hl2 := World.block_lt_of_cell? _ _ hc2; replace hf3 := keepf hb hc3 hf3; replace hc3 := keep hb hc3; replace hl3 := World.block_lt_of_cell? _ _ hc3; replace hf4 := keepf hb hc4 hf4; replace hc4 := keep hb hc4; replace hl4 := World.block_lt_of_cell? _ _ hc4)
          replace hB := Lib.hid (bthen hB.out hb)
          clear hb
          go_wp2_with fail
          refine bodyPost_ret (v := .tuple #[.agg #[.slice none 0 0], .int .i64 5]) (by simp [results, Tryz.results33, go_sem, *]) rfl ⟨none, 0, by rw [hf.out.1, hf.out.2.2]; rfl, by rw [hf.out.2.2]; exact World.ownsRow_nil _ _ _ _, ?_⟩
          first | exact hB.out | exact hB.out.setCell (by dsimp only; omega) _
end Go.Proofs.YtmpfnkheohlmiaaGreatDoor
