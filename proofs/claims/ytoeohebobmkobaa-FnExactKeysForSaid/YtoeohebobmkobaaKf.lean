/- The walks of the functions that tell the keys for a card: what each returns, and that memory has at most new blocks. -/
import Derived.Test.YtoeohebobmkobaaVerify
import Derived.Test.YtoeohebobmkobaaTexts
import Derived.Laws.AppendOwn
namespace Go.Proofs.Ytoeohebobmkobaa
open Go.RowKit
set_option maxRecDepth 100000
set_option linter.unusedVariables false
set_option linter.unusedSimpArgs false
set_option linter.unnecessarySimpa false

theorem kf_says {s : ByteArray} {xs ys : List Int} (hy : ys.length = s.size) : kfUp s.data.toList xs ys s.size = true ↔ punchedC s (kfS s ys) = 0 ∧ punchedL s (kfS s ys) xs = ys := by
  have hl := len_bytes s
  have h := kf_iff (l := s.data.toList) (xs := xs) (ys := ys) (by rw [hl]; exact hy)
  rw [hl] at h
  have hk : (kfS s ys).data.toList = keysUp s.data.toList ys s.size := rfl
  rw [h]
  unfold punchedC
  rw [hk]
  constructor
  · rintro ⟨h1, h2⟩
    refine ⟨h1, ?_⟩
    rw [punched_ok xs (by unfold punchedC; rw [hk]; exact h1), hk]; exact h2
  · rintro ⟨h1, h2⟩
    refine ⟨h1, ?_⟩
    rw [punched_ok xs (by unfold punchedC; rw [hk]; exact h1), hk] at h2; exact h2
theorem kfS_size (s : ByteArray) (ys : List Int) : (kfS s ys).size = (keysUp s.data.toList ys s.size).length := by
  unfold kfS; rw [← len_bytes]
theorem letter_of {s : ByteArray} (h : validProgL s.data.toList = true) {j : Nat} {c : UInt8} (hc : s.data.toList[j]? = some c) (hk : keyedB c.toNat = false) : c.toNat = 115 ∨ c.toNat = 100 := by
  unfold validProgL at h
  simp only [Bool.and_eq_true] at h
  have := List.all_eq_true.1 h.1 c (List.mem_of_getElem? hc)
  unfold letterB at this
  unfold keyedB at hk
  simp only [Bool.or_eq_true, beq_iff_eq, Bool.or_eq_false_iff, beq_eq_false_iff_ne] at this hk
  omega
set_option maxHeartbeats 4000000 in
theorem impl_KeysFor (s : ByteArray) (a : Option Addr) (c : Nat) (xs : List Int) (b : Option Addr) (d : Nat) (ys : List Int) (w : World) (hx : RI w a xs) (hy : RI w b ys) (hs : s.size ≤ 1048576) (hn : xs.length ≤ 1048576) (hn2 : ys.length ≤ 1048576) :
    Calls Try.prog 11 #[.string s, .agg #[.slice a xs.length c], .agg #[.slice b ys.length d]] w fun e w' => e = .returned (.tuple #[.string (kfT s xs ys), .int .i64 (kfCode s xs ys)]) ∧ Below w.heap.size w w' := by
  have hb1 := Lib.hid (below_alloc3 w (.cells #[.slice a xs.length c] 28) (.cells #[.slice b ys.length d] 28) (.cells #[.slice a xs.length c, .slice b ys.length d] 28))
  have hpc := Lib.hid (show Calls Try.prog 41 #[.string s, .bool true, .slice (some ⟨w.heap.size + 2, 0, none⟩) 2 2] (((w.alloc (.cells #[.slice a xs.length c] 28)).alloc (.cells #[.slice b ys.length d] 28)).alloc (.cells #[.slice a xs.length c, .slice b ys.length d] 28)) fun e w' => e = .returned (.int .i64 (progII s xs ys)) ∧ Below (((w.alloc (.cells #[.slice a xs.length c] 28)).alloc (.cells #[.slice b ys.length d] 28)).alloc (.cells #[.slice a xs.length c, .slice b ys.length d] 28)).heap.size (((w.alloc (.cells #[.slice a xs.length c] 28)).alloc (.cells #[.slice b ys.length d] 28)).alloc (.cells #[.slice a xs.length c, .slice b ys.length d] 28)) w' by
    have h := impl_programCode s true (some ⟨w.heap.size + 2, 0, none⟩) 2 [xs, ys] (((w.alloc (.cells #[.slice a xs.length c] 28)).alloc (.cells #[.slice b ys.length d] 28)).alloc (.cells #[.slice a xs.length c, .slice b ys.length d] 28)) hs (RDx.two (c := c) (d := d) (by simp [go_sem]) (by simp [go_sem]) (hx.kept hb1.out) (hy.kept hb1.out)) (by simp only [deckSz, List.length_cons, List.length_nil, List.map_cons, List.map_nil, List.sum_cons, List.sum_nil]; omega)
    rw [pcL_two] at h
    exact h)
  cases h : (progII s xs ys == 0)
  · have hf := Lib.hid (kfc_bad h)
    have hne : (progII s xs ys != 0) = true := by simpa using h
    clear h
    go_enter Try.func11, Try.ntmps11
    go_wp2_with fail
    refine hpc.out.mono ?_
    rintro e w2 ⟨rfl, hb⟩
    have hB := Lib.hid (bthen hb1.out hb)
    clear hb hpc
    go_wp2_with fail
    go_ret2
    exact ⟨by rw [hf.out.1, hf.out.2]; rfl, hB.out⟩
  · have h' : progII s xs ys = 0 := by simpa using h
    obtain ⟨h1, h2, h3, h4, h5⟩ := progII_zero h'
    rw [h'] at hpc
    obtain ⟨i0, hi, hz0, hz1, hz2⟩ := info_parts Try.info_byte
    have hlb := Lib.hid (len_bytes s)
    have hsz := Lib.hid (kfS_size s ys)
    have h5' := Lib.hid h5
    have hks := Lib.hid (kf_says (xs := xs) h5)
    have hyes := Lib.hid (fun (q : kfUp s.data.toList xs ys s.size = true) => kfc_ok h' q)
    have hno := Lib.hid (fun (q : kfUp s.data.toList xs ys s.size = false) => kfc_not h' q)
    have hpu := Lib.hid (fun W (hW : RI W a xs) => impl_punched s a c xs (kfS s ys) W hW hs (by rw [kfS_size]; have := keysUp_le s.data.toList ys s.size; omega) h4)
    have hpl := Lib.hid (fun (h0 : punchedC s (kfS s ys) = 0) => punchedL_size (xs := xs) h0)
    clear h h' h1 h2 h3 h4 h5
    go_enter Try.func11, Try.ntmps11
    go_wp2_with fail
    refine hpc.out.mono ?_
    rintro e w2 ⟨rfl, hb⟩
    (have hc0 := keep (p := ⟨w.heap.size, 0, none⟩) (v := .slice a xs.length c) hb (by simp [go_sem, *]); have hf0 := keepf (p := ⟨w.heap.size, 0, none⟩) (v := .slice a xs.length c) hb (by simp [go_sem, *]) (by simp [go_sem, *]); have hl0 := World.block_lt_of_cell? _ _ hc0; have hc1 := keep (p := ⟨w.heap.size + 1, 0, none⟩) (v := .slice b ys.length d) hb (by simp [go_sem, *]); have hf1 := keepf (p := ⟨w.heap.size + 1, 0, none⟩) (v := .slice b ys.length d) hb (by simp [go_sem, *]) (by simp [go_sem, *]); have hl1 := World.block_lt_of_cell? _ _ hc1)
    have hB := Lib.hid (bthen hb1.out hb)
    clear hb hpc
    have hown0 := World.ownsRow_lit (base := w2.heap.size) (e := 5) (size := 1) w2 #[] 0 (Nat.le_refl _) (by simp [maxLen]) rfl
    go_wp2_with fail
    go_loopw [9, 10] (fun v i wr => ∃ (j : Nat) (a' : Option Addr) (c' : Nat), j ≤ s.size ∧ i = .int .i64 j ∧ v = .slice a' (keysUp s.data.toList ys j).length c' ∧ a' ≠ none ∧ wr.ownsRow w2.heap.size 5 1 (.slice a' (keysUp s.data.toList ys j).length c') (keysUp s.data.toList ys j).length ((keysUp s.data.toList ys j).map byteV) ∧ Below w2.heap.size w2 wr) (fun _ i _ => s.size - (intOf i).toNat)
    case atStart => exact ⟨0, _, _, by omega, rfl, rfl, by simp, hown0, below_alloc _⟩
    case round =>
      obtain ⟨j, a3, c3, hj, rfl, rfl, hne3, hown, hb⟩ := hrel
      have rc0 := keep hb hc0
      have rc1 := keep hb hc1
      by_cases hlt : j < s.size
      · have hget := Lib.hid (get_bytes s j hlt)
        have hkl := keysUp_le s.data.toList ys j
        cases hkd : keyedB ((s[j]'hlt).toNat : Int)
        · have e109 : (((s[j]'hlt).toNat : Int) == 109) = false := by unfold keyedB at hkd; simp only [Bool.or_eq_false_iff] at hkd; exact hkd.1
          have e110 : (((s[j]'hlt).toNat : Int) == 110) = false := by unfold keyedB at hkd; simp only [Bool.or_eq_false_iff] at hkd; exact hkd.2
          have hkn := Lib.hid (keysUp_no ys hget.out hkd)
          go_wp2_with fail
          go_roundw
          case rel => exact ⟨j + 1, a3, c3, by omega, by go_num, by rw [hkn.out], hne3, by rw [hkn.out]; exact hown, hb⟩
          case measure => simp [intOf]; omega
        · obtain ⟨y, hyj⟩ := get_some (l := ys) (k := j) (by rw [h5'.out]; exact hlt)
          obtain ⟨b1, o1, rfl, hcy⟩ := (hy.kept (bthen hB.out hb)).at hyj
          have hjy : j < ys.length := by rw [h5'.out]; exact hlt
          have hjy' : (j : Int) < (ys.length : Int) := by omega
          have hkn := Lib.hid (keysUp_yes hget.out hyj hkd)
          have hch := Lib.hid (chU_all y).symm
          have hor : (s[j]'hlt).toNat = 109 ∨ (s[j]'hlt).toNat = 110 := by unfold keyedB at hkd; simp only [Bool.or_eq_true, beq_iff_eq] at hkd; omega
          have hcha := Lib.hid (fun U => impl_CharOf y U)
          generalize decide (0 ≤ rankM y) = bq at hcha
          generalize hKK : (keysUp s.data.toList ys j).length = KK at *
          have hKK' := Lib.hid hKK
          clear hyj hkd hKK
          rcases hor with h109 | h110
          · have e109 : (((s[j]'hlt).toNat : Int) == 109) = true := by simp; omega
            clear h109
            go_wp2_with (first | (go_at_call 42; ((with_reducible refine (hcha.out _).mono ?_); rintro e w' ⟨rfl, rfl⟩)) | (at_builtin; refine wpList_append_own _ rfl _ _ 66 rfl (w2.heap.size) 5 i0 (.int .u8 0) 1 1 Try.underlying66 hi hz0 hz1 hz2 rfl (by decide) _ (KK) ((keysUp s.data.toList ys j).map byteV) rfl (hown.alloc _) ⟨_, 0, none⟩ 1 1 [.int .u8 (charM y)] rfl rfl (news_one _ _ _) (one_one rfl) (by (have hq0 := hkl); simp only [maxLen]; omega) (by (have hq0 := hkl); omega) (by (have hq0 := hb.size); simp only [World.size_alloc]; omega) ?_; intro v1 w1 hown1 hgrow1 _; have hbq := Lib.hid (app_below hb hb.size hown (by first | exact Nat.le_refl _ | omega) hgrow1); obtain ⟨a1, c1, hv1, _, _⟩ := own_slice hown1; subst hv1; have hownq := Lib.hid hown1; clear hown1 hgrow1))
            go_roundw
            case rel => exact ⟨j + 1, a1, c1, by omega, by go_num, by rw [hkn.out, List.length_append, hKK'.out]; rfl, own_some hownq.out (by omega), by rw [hkn.out, List.length_append, List.map_append, hKK'.out]; have h9 := hownq.out; rw [hch.out] at h9; exact h9, hbq.out⟩
            case measure => simp [intOf]; omega
          · have e109 : (((s[j]'hlt).toNat : Int) == 109) = false := by simp; omega
            have e110 : (((s[j]'hlt).toNat : Int) == 110) = true := by simp; omega
            clear h110
            go_wp2_with (first | (go_at_call 42; ((with_reducible refine (hcha.out _).mono ?_); rintro e w' ⟨rfl, rfl⟩)) | (at_builtin; refine wpList_append_own _ rfl _ _ 66 rfl (w2.heap.size) 5 i0 (.int .u8 0) 1 1 Try.underlying66 hi hz0 hz1 hz2 rfl (by decide) _ (KK) ((keysUp s.data.toList ys j).map byteV) rfl (hown.alloc _) ⟨_, 0, none⟩ 1 1 [.int .u8 (charM y)] rfl rfl (news_one _ _ _) (one_one rfl) (by (have hq0 := hkl); simp only [maxLen]; omega) (by (have hq0 := hkl); omega) (by (have hq0 := hb.size); simp only [World.size_alloc]; omega) ?_; intro v1 w1 hown1 hgrow1 _; have hbq := Lib.hid (app_below hb hb.size hown (by first | exact Nat.le_refl _ | omega) hgrow1); obtain ⟨a1, c1, hv1, _, _⟩ := own_slice hown1; subst hv1; have hownq := Lib.hid hown1; clear hown1 hgrow1))
            go_roundw
            case rel => exact ⟨j + 1, a1, c1, by omega, by go_num, by rw [hkn.out, List.length_append, hKK'.out]; rfl, own_some hownq.out (by omega), by rw [hkn.out, List.length_append, List.map_append, hKK'.out]; have h9 := hownq.out; rw [hch.out] at h9; exact h9, hbq.out⟩
            case measure => simp [intOf]; omega
      · obtain rfl : j = s.size := by omega
        have hrow : RB wr a3 (keysUp s.data.toList ys s.size) := by
          obtain ⟨a', c', hv, hr, _⟩ := own_slice hown
          simp only [Value.slice.injEq] at hv
          obtain ⟨rfl, _, _⟩ := hv
          exact hr
        have hcv := run_text (P := Try.prog) wr 66 9 5 a3 c3 (keysUp s.data.toList ys s.size) Try.underlying66 Try.underlying5 Try.underlying9 hne3 hrow
        have hcvw := Lib.hid (fun (W : World) (hW : RB W a3 (keysUp s.data.toList ys s.size)) => run_text (P := Try.prog) W 66 9 5 a3 c3 (keysUp s.data.toList ys s.size) Try.underlying66 Try.underlying5 Try.underlying9 hne3 hW)
        rw [show (⟨(keysUp s.data.toList ys s.size).toArray⟩ : ByteArray) = kfS s ys from rfl] at hcv hcvw
        have hrow' := Lib.hid hrow
        have hBr := Lib.hid (bthen hB.out hb)
        generalize hKK : (keysUp s.data.toList ys s.size).length = KK at *
        clear hrow hown
        have hpq := Lib.hid (hpu.out wr (hx.kept hBr.out))
        by_cases h0 : punchedC s (kfS s ys) = 0
        · have hl0 := Lib.hid (hpl.out h0)
          rw [h0] at hpq
          by_cases he : punchedL s (kfS s ys) xs = ys
          · have hf := Lib.hid (hyes.out (hks.out.2 ⟨h0, he⟩))
            have he' := Lib.hid he
            have heb : eqB (punchedL s (kfS s ys) xs) ys = true := eqB_yes he
            clear h0 he
            go_wp2_with fail
            refine hpq.out.mono ?_
            rintro e w4 ⟨a4, c4, rfl, hown4, hb4⟩
            have hzs := own_RI hown4
            have rc1' := keep hb4 rc1
            have hB4 := Lib.hid (bthen hBr.out hb4)
            have hrow4 := Lib.hid (hrow'.out.kept hb4)
            have hy4 := hy.kept hB4.out
            clear hown4 hb4 hpq
            have hba := below_alloc (w := w4) (.cells #[.slice a4 (punchedL s (kfS s ys) xs).length c4] 28)
            have rc1a := keep hba rc1'
            have hsc := impl_SameCard_at a4 b c4 d _ ys _ (hzs.kept hba) (hy4.kept hba) (by rw [hl0.out]; exact small hs) (small hn2)
            rw [heb] at hsc
            have hsc' := Lib.hid hsc
            clear hsc hzs hy4 heb
            go_wp2_with fail
            refine hsc'.out.mono ?_
            rintro e w6 ⟨rfl, hb6⟩
            have hB6 := Lib.hid (bthen (bthen hB4.out hba) hb6)
            have hcv6 := hcvw.out _ ((hrow4.out.kept hba).kept hb6)
            go_wp2_with fail
            go_ret2
            exact ⟨by rw [hf.out.1, hf.out.2]; rfl, hB6.out⟩
          · have hnf : kfUp s.data.toList xs ys s.size = false := by
              cases hq : kfUp s.data.toList xs ys s.size
              · rfl
              · exact absurd (hks.out.1 hq).2 he
            have hf := Lib.hid (hno.out hnf)
            have heb : eqB (punchedL s (kfS s ys) xs) ys = false := eqB_no he
            clear hnf
            clear h0 he
            go_wp2_with fail
            refine hpq.out.mono ?_
            rintro e w4 ⟨a4, c4, rfl, hown4, hb4⟩
            have hzs := own_RI hown4
            have rc1' := keep hb4 rc1
            have hB4 := Lib.hid (bthen hBr.out hb4)
            have hrow4 := Lib.hid (hrow'.out.kept hb4)
            have hy4 := hy.kept hB4.out
            clear hown4 hb4 hpq
            have hba := below_alloc (w := w4) (.cells #[.slice a4 (punchedL s (kfS s ys) xs).length c4] 28)
            have rc1a := keep hba rc1'
            have hsc := impl_SameCard_at a4 b c4 d _ ys _ (hzs.kept hba) (hy4.kept hba) (by rw [hl0.out]; exact small hs) (small hn2)
            rw [heb] at hsc
            have hsc' := Lib.hid hsc
            clear hsc hzs hy4 heb
            go_wp2_with fail
            refine hsc'.out.mono ?_
            rintro e w6 ⟨rfl, hb6⟩
            have hB6 := Lib.hid (bthen (bthen hB4.out hba) hb6)
            go_wp2_with fail
            go_ret2
            exact ⟨by rw [hf.out.1, hf.out.2]; rfl, hB6.out⟩
        · have hnf : kfUp s.data.toList xs ys s.size = false := by
            cases hq : kfUp s.data.toList xs ys s.size
            · rfl
            · exact absurd (hks.out.1 hq).1 h0
          have hf := Lib.hid (hno.out hnf)
          have hne : (punchedC s (kfS s ys) != 0) = true := by simpa using h0
          clear hnf h0
          go_wp2_with fail
          refine hpq.out.mono ?_
          rintro e w4 ⟨a4, c4, rfl, hown4, hb4⟩
          have hB4 := Lib.hid (bthen hBr.out hb4)
          clear hown4 hb4 hpq
          go_wp2_with fail
          go_ret2
          exact ⟨by rw [hf.out.1, hf.out.2]; rfl, bthen hB4.out (below_alloc _)⟩
set_option maxHeartbeats 4000000 in
theorem spec_KeysFor (s : ByteArray) (a : Option Addr) (c : Nat) (xs : List Int) (b : Option Addr) (d : Nat) (ys : List Int) (w : World) (hx : RI w a xs) (hy : RI w b ys) (hs : s.size ≤ 1048576) (hn : xs.length ≤ 1048576) (hn2 : ys.length ≤ 1048576) :
    Calls Try.prog 9 #[.string s, .agg #[.slice a xs.length c], .agg #[.slice b ys.length d]] w fun e w' => e = .returned (.tuple #[.string (kfT s xs ys), .int .i64 (kfCode s xs ys)]) ∧ Below w.heap.size w w' := by
  have hb1 := Lib.hid (below_alloc2 w (.cells #[.slice a xs.length c] 28) (.cells #[.slice b ys.length d] 28))
  have hca : ((w.alloc (.cells #[.slice a xs.length c] 28)).alloc (.cells #[.slice b ys.length d] 28)).cell? ⟨w.heap.size, 0, none⟩ = some (.slice a xs.length c) := by simp [go_sem]
  have hcb : ((w.alloc (.cells #[.slice a xs.length c] 28)).alloc (.cells #[.slice b ys.length d] 28)).cell? ⟨w.heap.size + 1, 0, none⟩ = some (.slice b ys.length d) := by simp [go_sem]
  have hpc := Lib.hid (spec_l05Two w.heap.size (w.heap.size + 1) s a c xs b d ys _ hca hcb (hx.kept hb1.out) (hy.kept hb1.out) hs (small hn) (small hn2))
  cases h : (progII s xs ys == 0)
  · have hf := Lib.hid (kfc_bad h)
    have hne : (progII s xs ys != 0) = true := by simpa using h
    go_enter Try.func9, Try.ntmps9
    go_wp2_with (go_at_call 36; ((with_reducible refine hpc.out.mono ?_); rintro e w2 ⟨rfl, rfl⟩))
    go_ret2
    exact ⟨by rw [hf.out.1, hf.out.2]; rfl, hb1.out⟩
  · have h' : progII s xs ys = 0 := by simpa using h
    obtain ⟨h1, h2, h3, h4, h5⟩ := progII_zero h'
    rw [h'] at hpc
    obtain ⟨i0, hi, hz0, hz1, hz2⟩ := info_parts Try.info_byte
    have hlb := Lib.hid (len_bytes s)
    have h4' := Lib.hid h4
    have h5' := Lib.hid h5
    have hyes := Lib.hid (fun (q : kfUp s.data.toList xs ys s.size = true) => kfc_ok h' q)
    have hno := Lib.hid (fun (q : kfUp s.data.toList xs ys s.size = false) => kfc_not h' q)
    have hlet := Lib.hid (fun (j : Nat) (ch : UInt8) (hc : s.data.toList[j]? = some ch) (hk : keyedB ch.toNat = false) => letter_of h1 hc hk)
    clear h h' h1 h2 h3 h4 h5
    go_enter Try.func9, Try.ntmps9
    go_wp2_with (go_at_call 36; ((with_reducible refine hpc.out.mono ?_); rintro e w2 ⟨rfl, rfl⟩))
    have hsz2 : ((w.alloc (.cells #[.slice a xs.length c] 28)).alloc (.cells #[.slice b ys.length d] 28)).heap.size = w.heap.size + 1 + 1 := by simp
    generalize hWW : ((w.alloc (.cells #[.slice a xs.length c] 28)).alloc (.cells #[.slice b ys.length d] 28)) = w2 at *
    have hown0 := World.ownsRow_lit (base := w2.heap.size) (e := 5) (size := 1) w2 #[] 0 (Nat.le_refl _) (by simp [maxLen]) rfl
    rw [show Value.slice (some ⟨w2.heap.size, 0, none⟩) 0 0 = Value.slice (some ⟨w.heap.size + 1 + 1, 0, none⟩) 0 0 by rw [hsz2]] at hown0
    clear hsz2
    have hx2 := Lib.hid (hx.kept hb1.out)
    have hy2 := Lib.hid (hy.kept hb1.out)
    clear hWW hpc
    go_loopw [9, 10] (fun v i wr => ∃ (j : Nat) (a' : Option Addr) (c' : Nat), j ≤ s.size ∧ i = .int .i64 j ∧ v = .slice a' (keysUp s.data.toList ys j).length c' ∧ a' ≠ none ∧ Hid (kfUp s.data.toList xs ys j = true) ∧ wr.ownsRow w2.heap.size 5 1 (.slice a' (keysUp s.data.toList ys j).length c') (keysUp s.data.toList ys j).length ((keysUp s.data.toList ys j).map byteV) ∧ Below w2.heap.size w2 wr) (fun _ i _ => s.size - (intOf i).toNat)
    case atStart => exact ⟨0, _, _, by omega, rfl, rfl, by simp, Lib.hid rfl, hown0, below_alloc _⟩
    case round =>
      obtain ⟨j, a3, c3, hj, rfl, rfl, hne3, hall, hown, hb⟩ := hrel
      have rc0 := keep hb hca
      have rc1 := keep hb hcb
      have hBr := Lib.hid (bthen hb1.out hb)
      by_cases hlt : j < s.size
      · have hget := Lib.hid (get_bytes s j hlt)
        have hkl := keysUp_le s.data.toList ys j
        obtain ⟨y, hyj⟩ := get_some (l := ys) (k := j) (by rw [h5'.out]; exact hlt)
        obtain ⟨b1, o1, rfl, hcy⟩ := (hy2.out.kept hb).at hyj
        have hjy : j < ys.length := by rw [h5'.out]; exact hlt
        have hjy' : (j : Int) < (ys.length : Int) := by omega
        have hgy := Lib.hid hyj
        have hbad := Lib.hid (fun (q : kfAt s.data.toList xs ys j = false) => hno.out (by have := kf_not_at (by rw [hlb.out]; exact hlt) q; rwa [hlb.out] at this))
        have hnext := Lib.hid (fun (q : kfAt s.data.toList xs ys j = true) => Lib.hid (kfUp_succ hall.out q))
        cases hkd : keyedB ((s[j]'hlt).toNat : Int)
        · have hkn := Lib.hid (keysUp_no ys hget.out hkd)
          have hlr := hlet.out j _ hget.out hkd
          have hat := Lib.hid (show kfAt s.data.toList xs ys j = (if (s[j]'hlt).toNat = 100 then y == xs.getD j 0 else y == 0) by unfold kfAt; rw [getD_of hget.out, getD_of hgy.out, hkd]; rfl)
          rcases hlr with h115 | h100
          · have e115 : (((s[j]'hlt).toNat : Int) == 115) = true := by simp; omega
            have e100 : (((s[j]'hlt).toNat : Int) == 100) = false := by simp; omega
            have hat' := Lib.hid (hat.out.trans (if_neg (by omega)))
            clear h115 hyj
            by_cases hy0 : y = 0
            · have hn := hnext.out (hat'.out.trans (by simp [hy0]))
              have hy0' : (y != 0) = false := by simp [hy0]
              clear hy0
              go_wp2_with (first | (go_at_call 37; ((with_reducible refine (spec_l03Char _ _).mono ?_); rintro e w' ⟨rfl, rfl⟩)) | (go_at_call 38; ((with_reducible refine (spec_l05Keyed _ _).mono ?_); rintro e w' ⟨rfl, rfl⟩)))
              first | go_quiet (fail) | fail
              go_wp2_with fail
              go_roundw
              case rel => exact ⟨j + 1, a3, c3, by omega, by go_num, by rw [hkn.out], hne3, hn, by rw [hkn.out]; exact hown, below_drewN hb _⟩
              case measure => simp [intOf]; omega
            · have hf := Lib.hid (hbad.out (hat'.out.trans (by simp [hy0])))
              have hy0' : (y != 0) = true := by simp [hy0]
              clear hy0
              go_wp2_with (first | (go_at_call 37; ((with_reducible refine (spec_l03Char _ _).mono ?_); rintro e w' ⟨rfl, rfl⟩)) | (go_at_call 38; ((with_reducible refine (spec_l05Keyed _ _).mono ?_); rintro e w' ⟨rfl, rfl⟩)))
              go_ret2
              exact ⟨by rw [hf.out.1, hf.out.2]; rfl, hBr.out⟩
          · have e115 : (((s[j]'hlt).toNat : Int) == 115) = false := by simp; omega
            have e100 : (((s[j]'hlt).toNat : Int) == 100) = true := by simp; omega
            obtain ⟨x, hxj⟩ := get_some (l := xs) (k := j) (by rw [h4'.out]; exact hlt)
            obtain ⟨b2, o2, rfl, hcx⟩ := (hx2.out.kept hb).at hxj
            have hjx : j < xs.length := by rw [h4'.out]; exact hlt
            have hjx' : (j : Int) < (xs.length : Int) := by omega
            have hat' := Lib.hid ((hat.out.trans (if_pos h100)).trans (by rw [getD_of hxj] : (y == xs.getD j 0) = (y == x)))
            clear h100 hyj hxj
            by_cases hy0 : y = x
            · have hn := hnext.out (hat'.out.trans (by simp [hy0]))
              subst hy0
              go_wp2_with (first | (go_at_call 37; ((with_reducible refine (spec_l03Char _ _).mono ?_); rintro e w' ⟨rfl, rfl⟩)) | (go_at_call 38; ((with_reducible refine (spec_l05Keyed _ _).mono ?_); rintro e w' ⟨rfl, rfl⟩)))
              first | go_quiet (fail) | fail
              go_wp2_with fail
              go_roundw
              case rel => exact ⟨j + 1, a3, c3, by omega, by go_num, by rw [hkn.out], hne3, hn, by rw [hkn.out]; exact hown, below_drewN hb _⟩
              case measure => simp [intOf]; omega
            · have hf := Lib.hid (hbad.out (hat'.out.trans (by simp [hy0])))
              have hy0' : (y != x) = true := by simp [hy0]
              clear hy0
              go_wp2_with (first | (go_at_call 37; ((with_reducible refine (spec_l03Char _ _).mono ?_); rintro e w' ⟨rfl, rfl⟩)) | (go_at_call 38; ((with_reducible refine (spec_l05Keyed _ _).mono ?_); rintro e w' ⟨rfl, rfl⟩)))
              first | go_quiet (fail) | fail
              go_wp2_with fail
              go_ret2
              exact ⟨by rw [hf.out.1, hf.out.2]; rfl, below_drewN hBr.out _⟩
        · have hkn := Lib.hid (keysUp_yes hget.out hyj hkd)
          have hch := Lib.hid (chU_all y).symm
          have hat := Lib.hid (show kfAt s.data.toList xs ys j = (legalB y && !(decide ((s[j]'hlt).toNat = 110) && !digitB (charM y))) by unfold kfAt; rw [getD_of hget.out, getD_of hgy.out, hkd]; rfl)
          have hcha := Lib.hid (fun U => spec_l03Char y U)
          clear hyj
          cases hlg : legalB y
          · have hf := Lib.hid (hbad.out (hat.out.trans (by rw [hlg]; rfl)))
            have hlg' : decide (0 ≤ rankM y) = false := hlg
            rw [hlg'] at hcha
            clear hlg hlg'
            go_wp2_with (first | (go_at_call 37; ((with_reducible refine (hcha.out _).mono ?_); rintro e w' ⟨rfl, rfl⟩)) | (go_at_call 38; ((with_reducible refine (spec_l05Keyed _ _).mono ?_); rintro e w' ⟨rfl, rfl⟩)))
            go_ret2
            exact ⟨by rw [hf.out.1, hf.out.2]; rfl, hBr.out⟩
          · have hlg' : decide (0 ≤ rankM y) = true := hlg
            rw [hlg'] at hcha
            by_cases h110 : (s[j]'hlt).toNat = 110
            · have e110 : (((s[j]'hlt).toNat : Int) == 110) = true := by simp; omega
              cases hd : digitB (charM y)
              · have hf := Lib.hid (hbad.out (hat.out.trans (by rw [hlg, hd]; simp [h110])))
                clear hlg hlg' h110
                go_wp2_with (first | (go_at_call 37; ((with_reducible refine (hcha.out _).mono ?_); rintro e w' ⟨rfl, rfl⟩)) | (go_at_call 38; ((with_reducible refine (spec_l05Keyed _ _).mono ?_); rintro e w' ⟨rfl, rfl⟩)) | (go_at_call 39; ((with_reducible refine (spec_l01Digit _ _).mono ?_); rintro e w' ⟨rfl, rfl⟩)))
                go_ret2
                exact ⟨by rw [hf.out.1, hf.out.2]; rfl, hBr.out⟩
              · have hn := hnext.out (hat.out.trans (by rw [hlg, hd]; simp))
                clear hlg hlg' h110
                generalize hKK : (keysUp s.data.toList ys j).length = KK at *
                have hKK' := Lib.hid hKK
                clear hKK
                go_wp2_with (first | (go_at_call 37; ((with_reducible refine (hcha.out _).mono ?_); rintro e w' ⟨rfl, rfl⟩)) | (go_at_call 38; ((with_reducible refine (spec_l05Keyed _ _).mono ?_); rintro e w' ⟨rfl, rfl⟩)) | (go_at_call 39; ((with_reducible refine (spec_l01Digit _ _).mono ?_); rintro e w' ⟨rfl, rfl⟩)) | (at_builtin; refine wpList_append_own _ rfl _ _ 66 rfl (w2.heap.size) 5 i0 (.int .u8 0) 1 1 Try.underlying66 hi hz0 hz1 hz2 rfl (by decide) _ (KK) ((keysUp s.data.toList ys j).map byteV) rfl (hown.alloc _) ⟨_, 0, none⟩ 1 1 [.int .u8 (charM y)] rfl rfl (news_one _ _ _) (one_one rfl) (by (have hq0 := hkl); simp only [maxLen]; omega) (by (have hq0 := hkl); omega) (by (have hq0 := hb.size); simp only [World.size_alloc]; omega) ?_; intro v1 w1 hown1 hgrow1 _; have hbq := Lib.hid (app_below hb hb.size hown (by first | exact Nat.le_refl _ | omega) hgrow1); obtain ⟨a1, c1, hv1, _, _⟩ := own_slice hown1; subst hv1; have hownq := Lib.hid hown1; clear hown1 hgrow1))
                go_roundw
                case rel => exact ⟨j + 1, a1, c1, by omega, by go_num, by rw [hkn.out, List.length_append, hKK'.out]; rfl, own_some hownq.out (by omega), hn, by rw [hkn.out, List.length_append, List.map_append, hKK'.out]; have h9 := hownq.out; rw [hch.out] at h9; exact h9, hbq.out⟩
                case measure => simp [intOf]; omega
            · have e110 : (((s[j]'hlt).toNat : Int) == 110) = false := by simp; omega
              have hn := hnext.out (hat.out.trans (by rw [hlg]; simp [h110]))
              clear hlg hlg' h110
              generalize hKK : (keysUp s.data.toList ys j).length = KK at *
              have hKK' := Lib.hid hKK
              clear hKK
              go_wp2_with (first | (go_at_call 37; ((with_reducible refine (hcha.out _).mono ?_); rintro e w' ⟨rfl, rfl⟩)) | (go_at_call 38; ((with_reducible refine (spec_l05Keyed _ _).mono ?_); rintro e w' ⟨rfl, rfl⟩)) | (go_at_call 39; ((with_reducible refine (spec_l01Digit _ _).mono ?_); rintro e w' ⟨rfl, rfl⟩)) | (at_builtin; refine wpList_append_own _ rfl _ _ 66 rfl (w2.heap.size) 5 i0 (.int .u8 0) 1 1 Try.underlying66 hi hz0 hz1 hz2 rfl (by decide) _ (KK) ((keysUp s.data.toList ys j).map byteV) rfl (hown.alloc _) ⟨_, 0, none⟩ 1 1 [.int .u8 (charM y)] rfl rfl (news_one _ _ _) (one_one rfl) (by (have hq0 := hkl); simp only [maxLen]; omega) (by (have hq0 := hkl); omega) (by (have hq0 := hb.size); simp only [World.size_alloc]; omega) ?_; intro v1 w1 hown1 hgrow1 _; have hbq := Lib.hid (app_below hb hb.size hown (by first | exact Nat.le_refl _ | omega) hgrow1); obtain ⟨a1, c1, hv1, _, _⟩ := own_slice hown1; subst hv1; have hownq := Lib.hid hown1; clear hown1 hgrow1))
              go_roundw
              case rel => exact ⟨j + 1, a1, c1, by omega, by go_num, by rw [hkn.out, List.length_append, hKK'.out]; rfl, own_some hownq.out (by omega), hn, by rw [hkn.out, List.length_append, List.map_append, hKK'.out]; have h9 := hownq.out; rw [hch.out] at h9; exact h9, hbq.out⟩
              case measure => simp [intOf]; omega
      · obtain rfl : j = s.size := by omega
        have hf := Lib.hid (hyes.out hall.out)
        have hrow : RB wr a3 (keysUp s.data.toList ys s.size) := by
          obtain ⟨a', c', hv, hr, _⟩ := own_slice hown
          simp only [Value.slice.injEq] at hv
          obtain ⟨rfl, _, _⟩ := hv
          exact hr
        have hcv := run_text (P := Try.prog) wr 66 9 5 a3 c3 (keysUp s.data.toList ys s.size) Try.underlying66 Try.underlying5 Try.underlying9 hne3 hrow
        rw [show (⟨(keysUp s.data.toList ys s.size).toArray⟩ : ByteArray) = kfS s ys from rfl] at hcv
        generalize hKK : (keysUp s.data.toList ys s.size).length = KK at *
        go_wp2_with fail
        go_ret2
        exact ⟨by rw [hf.out.1, hf.out.2]; rfl, hBr.out⟩
end Go.Proofs.Ytoeohebobmkobaa
