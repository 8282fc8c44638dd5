/- The walks of the two functions that punch a card by a program card: what each returns, and that memory has at most new blocks. -/
import Derived.Test.YtoeohebobmkobaaKeyed
import Derived.Test.YtoeohebobmkobaaKeyedS
namespace Go.Proofs.Ytoeohebobmkobaa
open Go.RowKit
set_option maxRecDepth 100000
set_option linter.unusedVariables false
set_option linter.unusedSimpArgs false
set_option linter.unnecessarySimpa false

set_option maxHeartbeats 1000000 in
theorem impl_PunchByProgram (s : ByteArray) (a : Option Addr) (c : Nat) (xs : List Int) (u : ByteArray) (w : World) (hx : RI w a xs) (hs : s.size ≤ 1048576) (hn : xs.length ≤ 1048576) (hu : u.size ≤ 1048576) :
    Calls Try.prog 16 #[.string s, .agg #[.slice a xs.length c], .string u] w fun e w' => ∃ a' c', e = .returned (.tuple #[.agg #[.slice a' (pbpL s u xs).length c'], .int .i64 (pbpCode s u xs)]) ∧ w'.ownsRow w.heap.size 2 1 (.slice a' (pbpL s u xs).length c') (pbpL s u xs).length ((pbpL s u xs).map (Value.int .i64)) ∧ Below w.heap.size w w' := by
  have hb1 := Lib.hid (below_alloc3 w (.cells #[.slice a xs.length c] 28) (.cells #[.slice none 0 0] 28) (.cells #[.slice a xs.length c] 28))
  have hpc := Lib.hid (show Calls Try.prog 41 #[.string s, .bool true, .slice (some ⟨w.heap.size + 2, 0, none⟩) 1 1] (((w.alloc (.cells #[.slice a xs.length c] 28)).alloc (.cells #[.slice none 0 0] 28)).alloc (.cells #[.slice a xs.length c] 28)) fun e w' => e = .returned (.int .i64 (progI s xs)) ∧ Below (((w.alloc (.cells #[.slice a xs.length c] 28)).alloc (.cells #[.slice none 0 0] 28)).alloc (.cells #[.slice a xs.length c] 28)).heap.size (((w.alloc (.cells #[.slice a xs.length c] 28)).alloc (.cells #[.slice none 0 0] 28)).alloc (.cells #[.slice a xs.length c] 28)) w' by
    have h := impl_programCode s true (some ⟨w.heap.size + 2, 0, none⟩) 1 [xs] (((w.alloc (.cells #[.slice a xs.length c] 28)).alloc (.cells #[.slice none 0 0] 28)).alloc (.cells #[.slice a xs.length c] 28)) hs (RDx.one (c := c) (by simp [go_sem]) (hx.kept hb1.out)) (by simp only [deckSz, List.length_singleton, List.map_cons, List.map_nil, List.sum_cons, List.sum_nil]; omega)
    rw [pcL_one] at h
    exact h)
  cases h : (progI s xs == 0)
  · have hf := Lib.hid (pbp_bad u h)
    have hne : (progI s xs != 0) = true := by simpa using h
    clear h
    go_enter Try.func16, Try.ntmps16
    go_wp2_with fail
    refine hpc.out.mono ?_
    rintro e w2 ⟨rfl, hb⟩
    (have hc0 := keep (p := ⟨w.heap.size, 0, none⟩) (v := .slice a xs.length c) hb (by simp [go_sem, *]); have hf0 := keepf (p := ⟨w.heap.size, 0, none⟩) (v := .slice a xs.length c) hb (by simp [go_sem, *]) (by simp [go_sem, *]); have hl0 := World.block_lt_of_cell? _ _ hc0; have hc1 := keep (p := ⟨w.heap.size + 1, 0, none⟩) (v := .slice none 0 0) hb (by simp [go_sem, *]); have hf1 := keepf (p := ⟨w.heap.size + 1, 0, none⟩) (v := .slice none 0 0) hb (by simp [go_sem, *]) (by simp [go_sem, *]); have hl1 := World.block_lt_of_cell? _ _ hc1)
    have hB := Lib.hid (bthen hb1.out hb)
    clear hb hpc
    go_wp2_with fail
    refine bodyPost_ret (v := .tuple #[.agg #[.slice none 0 0], .int .i64 (progI s xs)]) (by simp [results, Try.results16, go_sem, *]) rfl ⟨none, 0, by rw [hf.out.1, hf.out.2]; rfl, by rw [hf.out.2]; exact World.ownsRow_nil _ _ _ _, hB.out.setCell (by dsimp only; omega) _⟩
  · have h' : progI s xs = 0 := by simpa using h
    obtain ⟨h1, h2, h3⟩ := progI_zero h'
    have hf := Lib.hid (pbp_ok u h')
    have hpq := Lib.hid (fun W (hW : RI W a xs) => impl_punched s a c xs u W hW hs hu h3)
    rw [h'] at hpc
    clear h h' h1 h2 h3
    go_enter Try.func16, Try.ntmps16
    go_wp2_with fail
    refine hpc.out.mono ?_
    rintro e w2 ⟨rfl, hb⟩
    (have hc0 := keep (p := ⟨w.heap.size, 0, none⟩) (v := .slice a xs.length c) hb (by simp [go_sem, *]); have hf0 := keepf (p := ⟨w.heap.size, 0, none⟩) (v := .slice a xs.length c) hb (by simp [go_sem, *]) (by simp [go_sem, *]); have hl0 := World.block_lt_of_cell? _ _ hc0; have hc1 := keep (p := ⟨w.heap.size + 1, 0, none⟩) (v := .slice none 0 0) hb (by simp [go_sem, *]); have hf1 := keepf (p := ⟨w.heap.size + 1, 0, none⟩) (v := .slice none 0 0) hb (by simp [go_sem, *]) (by simp [go_sem, *]); have hl1 := World.block_lt_of_cell? _ _ hc1)
    have hB := Lib.hid (bthen hb1.out hb)
    have hs2 := hB.out.size
    clear hb hpc
    go_wp2_with fail
    refine (hpq.out _ (hx.kept hB.out)).mono ?_
    rintro e w3 ⟨a3, c3, rfl, hown, hb⟩
    have hown' := Lib.hid hown
    have hB3 := Lib.hid (bthen hB.out hb)
    have hc1' := keep hb hc1
    have hf1' := keepf hb hc1 hf1
    have hl1' : w.heap.size + 1 < w2.heap.size := hl1
    clear hown hb
    go_wp2_with fail
    refine bodyPost_ret (v := .tuple #[.agg #[.slice a3 (punchedL s u xs).length c3], .int .i64 (punchedC s u)]) (by simp [results, Try.results16, go_sem, *]) rfl ⟨a3, c3, by rw [hf.out.1, hf.out.2], ?_, hB3.out.setCell (by dsimp only; omega) _⟩
    rw [hf.out.2]
    exact own_mono (ownsRow_setCell_below hown'.out (by dsimp only; omega) _) (by omega)
set_option maxHeartbeats 1000000 in
theorem spec_PunchByProgram (s : ByteArray) (a : Option Addr) (c : Nat) (xs : List Int) (u : ByteArray) (w : World) (hx : RI w a xs) (hs : s.size ≤ 1048576) (hn : xs.length ≤ 1048576) (hu : u.size ≤ 1048576) :
    Calls Try.prog 15 #[.string s, .agg #[.slice a xs.length c], .string u] w fun e w' => ∃ a' c', e = .returned (.tuple #[.agg #[.slice a' (pbpL s u xs).length c'], .int .i64 (pbpCode s u xs)]) ∧ w'.ownsRow w.heap.size 2 1 (.slice a' (pbpL s u xs).length c') (pbpL s u xs).length ((pbpL s u xs).map (Value.int .i64)) ∧ Below w.heap.size w w' := by
  have hb1 := Lib.hid (below_alloc2 w (.cells #[.slice a xs.length c] 28) (.cells #[.slice none 0 0] 28))
  have hca : ((w.alloc (.cells #[.slice a xs.length c] 28)).alloc (.cells #[.slice none 0 0] 28)).cell? ⟨w.heap.size, 0, none⟩ = some (.slice a xs.length c) := by simp [go_sem]
  have hcb : ((w.alloc (.cells #[.slice a xs.length c] 28)).alloc (.cells #[.slice none 0 0] 28)).cell? ⟨w.heap.size + 1, 0, none⟩ = some (.slice none 0 0) := by simp [go_sem]
  have hcf : ((w.alloc (.cells #[.slice a xs.length c] 28)).alloc (.cells #[.slice none 0 0] 28)).frozen? ⟨w.heap.size + 1, 0, none⟩ = false := by simp [go_sem]
  have hpc := Lib.hid (spec_l05Code w.heap.size s a c xs _ hca (hx.kept hb1.out) hs (small hn))
  cases h : (progI s xs == 0)
  · have hf := Lib.hid (pbp_bad u h)
    have hne : (progI s xs != 0) = true := by simpa using h
    go_enter Try.func15, Try.ntmps15
    go_wp2_with (go_at_call 49; ((with_reducible refine hpc.out.mono ?_); rintro e w2 ⟨rfl, rfl⟩))
    refine bodyPost_ret (v := .tuple #[.agg #[.slice none 0 0], .int .i64 (progI s xs)]) (by simp [results, Try.results15, go_sem, *]) rfl ⟨none, 0, by rw [hf.out.1, hf.out.2]; rfl, by rw [hf.out.2]; exact World.ownsRow_nil _ _ _ _, by first | exact hb1.out | exact hb1.out.setCell (by dsimp only; omega) _⟩
  · have h' : progI s xs = 0 := by simpa using h
    obtain ⟨h1, h2, h3⟩ := progI_zero h'
    have hf := Lib.hid (pbp_ok u h')
    rw [h'] at hpc
    have hck := Lib.hid (fun W => spec_l05Check s u W hs hu)
    clear h h' h1 h2
    by_cases hz : punchedC s u = 0
    · have hpq := Lib.hid (spec_l05Punch w.heap.size s a c xs u _ hca (hx.kept hb1.out) hs hu h3 hz)
      have hz' := Lib.hid hz
      rw [hz] at hck
      clear hz h3
      go_enter Try.func15, Try.ntmps15
      go_wp2_with (first | (go_at_call 49; ((with_reducible refine hpc.out.mono ?_); rintro e w2 ⟨rfl, rfl⟩)) | (go_at_call 46; ((with_reducible refine (hck.out _).mono ?_); rintro e w2 ⟨rfl, rfl⟩)))
      refine hpq.out.mono ?_
      rintro e w3 ⟨a3, c3, rfl, hown, hb⟩
      have hown' := Lib.hid hown
      have hB3 := Lib.hid (bthen hb1.out hb)
      have hc1' := keep hb hcb
      have hf1' := keepf hb hcb hcf
      clear hown hb hpq
      go_wp2_with fail
      refine bodyPost_ret (v := .tuple #[.agg #[.slice a3 (punchedL s u xs).length c3], .int .i64 0]) (by simp [results, Try.results15, go_sem, *]) rfl ⟨a3, c3, by rw [hf.out.1, hf.out.2, hz'.out], ?_, hB3.out.setCell (by dsimp only; omega) _⟩
      rw [hf.out.2]
      exact own_mono (ownsRow_setCell_below hown'.out (by simp) _) (by simp; omega)
    · have hb0 := Lib.hid (punched_bad (s := s) (u := u) xs rfl hz)
      have hne : (punchedC s u != 0) = true := by simpa using hz
      clear hz h3
      go_enter Try.func15, Try.ntmps15
      go_wp2_with (first | (go_at_call 49; ((with_reducible refine hpc.out.mono ?_); rintro e w2 ⟨rfl, rfl⟩)) | (go_at_call 46; ((with_reducible refine (hck.out _).mono ?_); rintro e w2 ⟨rfl, rfl⟩)))
      refine bodyPost_ret (v := .tuple #[.agg #[.slice none 0 0], .int .i64 (punchedC s u)]) (by simp [results, Try.results15, go_sem, *]) rfl ⟨none, 0, by rw [hf.out.1, hf.out.2, hb0.out]; rfl, by rw [hf.out.2, hb0.out]; exact World.ownsRow_nil _ _ _ _, by first | exact hb1.out | exact hb1.out.setCell (by dsimp only; omega) _⟩
end Go.Proofs.Ytoeohebobmkobaa
