/- The walks of the two functions that punch a deck by a program card: what each returns, and that memory has at most new blocks. -/
import Derived.Test.YtoeohebobmkobaaKeyed
import Derived.Test.YtoeohebobmkobaaKeyedS
import Derived.Test.YtoeohebobmkobaaOPush
import Derived.Test.YtoeohebobmkobaaDeck
import Derived.Test.YtoeohebobmkobaaTextsA
import Derived.Maps.AppendAt
import Derived.Deep.CutRange
import Derived.RegionTactic
namespace Go.Proofs.Ytoeohebobmkobaa
open Go.RowKit
set_option maxRecDepth 100000
set_option linter.unusedVariables false
set_option linter.unusedSimpArgs false
set_option linter.unnecessarySimpa false

/-- the cards that are punched, each by the one before -/
def paCards (s : ByteArray) : List Int → List ByteArray → List (List Int)
  | _, [] => []
  | xs, u :: r => punchedL s u xs :: paCards s (punchedL s u xs) r
theorem paCards_length (s : ByteArray) : ∀ (xs : List Int) (us : List ByteArray), (paCards s xs us).length = us.length
  | _, [] => rfl
  | xs, u :: r => by simp [paCards, paCards_length]
/-- the card before the k-th -/
def paBef (s : ByteArray) (xs : List Int) (us : List ByteArray) : Nat → List Int
  | 0 => xs
  | k + 1 => (paCards s xs us).getD k []
theorem paCards_at (s : ByteArray) : ∀ (xs : List Int) (us : List ByteArray) (k : Nat) (u : ByteArray), us[k]? = some u → (paCards s xs us)[k]? = some (punchedL s u (paBef s xs us k))
  | _, [], k, u, h => by simp at h
  | xs, v :: r, 0, u, h => by simp only [List.getElem?_cons_zero, Option.some.injEq] at h; subst h; rfl
  | xs, v :: r, k + 1, u, h => by
    simp only [List.getElem?_cons_succ] at h
    simp only [paCards, List.getElem?_cons_succ]
    rw [paCards_at s _ r k u h]
    cases k with
    | zero => rfl
    | succ j => rfl
theorem paBef_succ {s : ByteArray} {xs : List Int} {us : List ByteArray} {k : Nat} {u : ByteArray} (h : us[k]? = some u) : paBef s xs us (k + 1) = punchedL s u (paBef s xs us k) := by
  show (paCards s xs us).getD k [] = _
  rw [List.getD_eq_getElem?_getD, paCards_at s xs us k u h]; rfl
theorem paCards_take {s : ByteArray} {xs : List Int} {us : List ByteArray} {k : Nat} {u : ByteArray} (h : us[k]? = some u) : (paCards s xs us).take (k + 1) = (paCards s xs us).take k ++ [punchedL s u (paBef s xs us k)] := by
  rw [List.take_add_one, paCards_at s xs us k u h]; rfl
def paBad (s : ByteArray) (us : List ByteArray) : Int := match us.find? (fun u => !(punchedC s u == 0)) with | some u => punchedC s u | none => 0
def paCode (s : ByteArray) (xs : List Int) (us : List ByteArray) : Int := if progI s xs == 0 then (if us.length ≤ 40 then paBad s us else 5) else progI s xs
def paL (s : ByteArray) (xs : List Int) (us : List ByteArray) : List (List Int) := if paCode s xs us == 0 then paCards s xs us else []
theorem pa_bad {s : ByteArray} {xs : List Int} (us : List ByteArray) (h : (progI s xs == 0) = false) : paCode s xs us = progI s xs ∧ paL s xs us = [] := by
  have e : paCode s xs us = progI s xs := by unfold paCode; rw [h]; rfl
  exact ⟨e, by unfold paL; rw [e, h]; rfl⟩
theorem pa_full {s : ByteArray} {xs : List Int} {us : List ByteArray} (h : progI s xs = 0) (h2 : ¬ us.length ≤ 40) : paCode s xs us = 5 ∧ paL s xs us = [] := by
  have e : paCode s xs us = 5 := by unfold paCode; rw [h, if_neg h2]; rfl
  exact ⟨e, by unfold paL; rw [e]; rfl⟩
theorem pa_hit {s : ByteArray} {xs : List Int} {us : List ByteArray} {k : Nat} {u : ByteArray} (h : progI s xs = 0) (h2 : us.length ≤ 40) (hk : us[k]? = some u) (hall : (us.take k).all (fun u => punchedC s u == 0) = true) (hu : ¬ punchedC s u = 0) : paCode s xs us = punchedC s u ∧ paL s xs us = [] := by
  have hp : (!(punchedC s u == 0)) = true := by simpa using hu
  have e : paCode s xs us = punchedC s u := by
    unfold paCode paBad
    rw [h, if_pos h2, (find_hit (p := fun u => !(punchedC s u == 0)) hk (by simpa using hall) hp).2]; rfl
  have e2 : (punchedC s u == 0) = false := by simpa using hu
  exact ⟨e, by unfold paL; rw [e, e2]; rfl⟩
theorem pa_end {s : ByteArray} {xs : List Int} {us : List ByteArray} {k : Nat} (h : progI s xs = 0) (h2 : us.length ≤ 40) (hk : us.length ≤ k) (hall : (us.take k).all (fun u => punchedC s u == 0) = true) : paCode s xs us = 0 ∧ paL s xs us = paCards s xs us := by
  have e : paCode s xs us = 0 := by
    unfold paCode paBad
    rw [h, if_pos h2, (find_none (p := fun u => !(punchedC s u == 0)) hk (by simpa using hall)).2]; rfl
  exact ⟨e, by unfold paL; rw [e]; rfl⟩
theorem punched_len {s u : ByteArray} {xs : List Int} (h : punchedC s u = 0) : (punchedL s u xs).length = s.size := by
  rw [punched_ok xs h, progUp_length _ _ _ (Nat.le_refl _)]
theorem OV.off {w : World} {lo hi e size n c B : Nat} {a : Option Addr} {vs : List Value} (h : OV lo hi w e size a n c vs) (hne : ∀ q, a = some q → ¬ q.block = B) (j : Nat) (u : Value) : OV lo hi (w.setCell ⟨B, j, none⟩ u) e size a n c vs := by
  refine ⟨?_, h.2⟩
  obtain ⟨h1, h2 | ⟨q, cap, cur, hv, hq, hc, r⟩⟩ := h.1
  · exact ⟨h1, .inl h2⟩
  · have ha : a = some ⟨q, 0, none⟩ := by simp only [Value.slice.injEq] at hv; exact hv.1
    have hqB : ¬ q = B := hne _ ha
    refine ⟨h1, .inr ⟨q, cap, cur, hv, hq, ?_, r⟩⟩
    rw [Below.heap_setCell _ _ _ _ (by simpa using hqB)]; exact hc
/-- a store into a block that is none of the deck's -/
theorem ODh.off {hs : List (Option Addr × Nat)} {lo hi B : Nat} {w : World} {e e' c : Nat} {a : Option Addr} {xss : List (List Int)} {cs : Array Value} {m : Nat × Nat} (h : ODh hs lo hi w e e' a c xss) (hB : w.heap[B]? = some (.cells cs e m)) (hne : ∀ q, a = some q → ¬ q.block = B) (hee : e' ≠ e) (j : Nat) (u : Value) : ODh hs lo hi (w.setCell ⟨B, j, none⟩ u) e e' a c xss := by
  obtain ⟨h1, h2, h3, h4⟩ := h
  exact ⟨h1, h2.off hne j u, fun k p xs e1 e2 => OV.far (h3 k p xs e1 e2) hB hee j u, h4⟩
theorem OD.off {lo hi B : Nat} {w : World} {e e' c : Nat} {a : Option Addr} {xss : List (List Int)} {cs : Array Value} {m : Nat × Nat} (h : OD lo hi w e e' a c xss) (hB : w.heap[B]? = some (.cells cs e m)) (hne : ∀ q, a = some q → ¬ q.block = B) (hee : e' ≠ e) (j : Nat) (u : Value) : OD lo hi (w.setCell ⟨B, j, none⟩ u) e e' a c xss := by
  obtain ⟨hs, h⟩ := h.parts
  exact (h.off hB hne hee j u).od
theorem lit_first {lo e : Nat} (w2 : World) (u : Value) (h : lo ≤ w2.heap.size) : ((w2.alloc (.cells #[] e)).alloc (.cells #[u] e)).drew.heap[w2.heap.size + 1]? = some (.cells #[u] e (0, 0)) ∧ ((w2.alloc (.cells #[] e)).alloc (.cells #[u] e)).drew.ownsRow lo e 1 (.slice (some ⟨w2.heap.size, 0, none⟩) 0 0) 0 [] ∧ Below w2.heap.size w2 ((w2.alloc (.cells #[] e)).alloc (.cells #[u] e)).drew := by
  have h1 := heap_alloc_new (w2.alloc (.cells #[] e)) (.cells #[u] e)
  rw [World.size_alloc] at h1
  exact ⟨h1, (World.ownsRow_lit (base := lo) (e := e) (size := 1) w2 #[] 0 h (by simp [maxLen]) rfl).alloc _, (((Below.refl w2.heap.size w2).alloc (Nat.le_refl _) _).alloc (by simp) _).drew⟩
theorem lit_last {lo e : Nat} (w2 : World) (u : Value) (h : lo ≤ w2.heap.size) : ((w2.alloc (.cells #[u] e)).alloc (.cells #[] e)).drew.heap[w2.heap.size]? = some (.cells #[u] e (0, 0)) ∧ ((w2.alloc (.cells #[u] e)).alloc (.cells #[] e)).drew.ownsRow lo e 1 (.slice (some ⟨w2.heap.size + 1, 0, none⟩) 0 0) 0 [] ∧ Below w2.heap.size w2 ((w2.alloc (.cells #[u] e)).alloc (.cells #[] e)).drew := by
  have h2 := World.ownsRow_lit (base := lo) (e := e) (size := 1) (w2.alloc (.cells #[u] e)) #[] 0 (by simp; omega) (by simp [maxLen]) rfl
  rw [World.size_alloc] at h2
  exact ⟨(heap_alloc_old (w2.alloc (.cells #[u] e)) (.cells #[] e) (by simp)).trans (heap_alloc_new w2 _), h2, (((Below.refl w2.heap.size w2).alloc (Nat.le_refl _) _).alloc (by simp) _).drew⟩
theorem ne_moved {a a6 : Option Addr} {k k6 c c6 B W : Nat} (hat : (Value.slice a6 k6 c6).ownBlock = (Value.slice a k c).ownBlock ∨ (Value.slice a6 k6 c6).ownBlock = some W) (hne : ∀ q, a = some q → ¬ q.block = B) (hW : ¬ W = B) : ∀ q, a6 = some q → ¬ q.block = B := by
  rintro q rfl rfl
  rcases hat with h | h
  · exact own_ne hne h
  · simp only [Value.ownBlock, Option.some.injEq] at h; exact hW h.symm
theorem blk1_cell {w : World} {g t : Nat} {u : Value} (h : w.heap[g]? = some (.cells #[u] t (0, 0))) : w.cell? ⟨g, 0, none⟩ = some u ∧ w.frozen? ⟨g, 0, none⟩ = false := by
  refine ⟨by rw [cell_of_row w g 0 _ t (0, 0) h]; rfl, ?_⟩
  simp [World.frozen?, h]
theorem blk1_set {w : World} {g t : Nat} {u v : Value} {m : Nat × Nat} (h : w.heap[g]? = some (.cells #[u] t m)) : (w.setCell ⟨g, 0, none⟩ v).heap[g]? = some (.cells #[v] t m) := blk_set h 0 v
theorem blk1_kept {w w' : World} {g : Nat} {o : Obj} (h : w.heap[g]? = some o) (hb : Below w.heap.size w w') : w'.heap[g]? = some o := by
  have hlt : g < w.heap.size := by
    rcases Nat.lt_or_ge g w.heap.size with hh | hh
    · exact hh
    · rw [Array.getElem?_eq_none hh] at h; cases h
  exact (hb.block g hlt).trans h
theorem paL_len (s : ByteArray) (xs : List Int) (us : List ByteArray) (hs : s.size ≤ 1048576) : deckSz (paL s xs us) ≤ 1048576 := by
  unfold paL
  cases h : (paCode s xs us == 0)
  · simp [deckSz]
  · have hc : paCode s xs us = 0 := by simpa using h
    have hp : progI s xs = 0 := by
      unfold paCode at hc
      cases hq : (progI s xs == 0)
      · rw [hq] at hc; simpa using hc
      · simpa using hq
    have h40 : us.length ≤ 40 := by
      rcases Nat.lt_or_ge 40 us.length with hh | hh
      · rw [(pa_full hp (by omega)).1] at hc; cases hc
      · exact hh
    obtain ⟨hv, _, _⟩ := progI_zero hp
    have hs20 : s.size ≤ 20 := by
      unfold validProgL at hv
      simp only [Bool.and_eq_true] at hv
      have := (inB_true.1 hv.2).2
      rw [len_bytes] at this; omega
    have hsum : ∀ (xs : List Int) (us : List ByteArray), ((paCards s xs us).map List.length).sum ≤ us.length * 20 := by
      intro xs us
      induction us generalizing xs with
      | nil => simp [paCards]
      | cons u r ih =>
        have h1 := ih (punchedL s u xs)
        have h2 := punchedL_le s u xs
        simp only [paCards, List.map_cons, List.sum_cons, List.length_cons]
        omega
    have := hsum xs us
    simp only [if_true]
    unfold deckSz
    rw [paCards_length]
    omega
set_option maxHeartbeats 4000000 in
theorem impl_PunchAll (s : ByteArray) (a : Option Addr) (c : Nat) (xs : List Int) (ua : Option Addr) (uc : Nat) (us : List ByteArray) (w : World) (hx : RI w a xs) (hu : RS w ua us) (hs : s.size ≤ 1048576) (hn : xs.length ≤ 1048576) (hum : textsSz us ≤ 1048576) :
    Calls Try.prog 22 #[.string s, .agg #[.slice a xs.length c], .slice ua us.length uc] w fun e w' => ∃ a' c', e = .returned (.tuple #[.slice a' (paL s xs us).length c', .int .i64 (paCode s xs us)]) ∧ OD w.heap.size w'.heap.size w' 28 2 a' c' (paL s xs us) ∧ Below w.heap.size w w' := by
  obtain ⟨i0, hi, hz0, hz1, hz2⟩ := info_parts Try.info_card
  have hb1 := Lib.hid (below_alloc2 w (.cells #[.slice a xs.length c] 28) (.cells #[.slice a xs.length c] 28))
  have hpc := Lib.hid (show Calls Try.prog 41 #[.string s, .bool true, .slice (some ⟨w.heap.size + 1, 0, none⟩) 1 1] ((w.alloc (.cells #[.slice a xs.length c] 28)).alloc (.cells #[.slice a xs.length c] 28)) fun e w' => e = .returned (.int .i64 (progI s xs)) ∧ Below ((w.alloc (.cells #[.slice a xs.length c] 28)).alloc (.cells #[.slice a xs.length c] 28)).heap.size ((w.alloc (.cells #[.slice a xs.length c] 28)).alloc (.cells #[.slice a xs.length c] 28)) w' by
    have h := impl_programCode s true (some ⟨w.heap.size + 1, 0, none⟩) 1 [xs] ((w.alloc (.cells #[.slice a xs.length c] 28)).alloc (.cells #[.slice a xs.length c] 28)) hs (RDx.one (c := c) (by simp [go_sem]) (hx.kept hb1.out)) (by simp only [deckSz, List.length_singleton, List.map_cons, List.map_nil, List.sum_cons, List.sum_nil]; omega)
    rw [pcL_one] at h
    exact h)
  have hub := Lib.hid (fun (u : ByteArray) (hk : u ∈ us) => textsSz_mem hk hum)
  have hul : us.length ≤ 1048576 := Nat.le_trans (textsSz_len us) hum
  clear hum
  generalize hN : us.length = N at *
  have hN' := Lib.hid hN
  clear hN
  cases h : (progI s xs == 0)
  · have hf := Lib.hid (pa_bad us h)
    have hne : (progI s xs != 0) = true := by simpa using h
    clear h
    go_enter Try.func22, Try.ntmps22
    go_wp2_with fail
    refine hpc.out.mono ?_
    rintro e w2 ⟨rfl, hb⟩
    have hB := Lib.hid (bthen hb1.out hb)
    clear hb hpc
    go_wp2_with fail
    go_ret2
    exact ⟨none, 0, by rw [hf.out.1, hf.out.2]; rfl, by rw [hf.out.2]; exact OD.nil _ _ _ _ (World.ownsRow_nil _ _ _ _), hB.out⟩
  · have h' : progI s xs = 0 := by simpa using h
    obtain ⟨_, _, h3⟩ := progI_zero h'
    rw [h'] at hpc
    clear h
    by_cases hl : N ≤ 40
    · have hl' : (N : Int) ≤ 40 := by omega
      have hcode := Lib.hid h'
      have hxl := Lib.hid h3
      clear h' h3
      go_enter Try.func22, Try.ntmps22
      go_wp2_with fail
      refine hpc.out.mono ?_
      rintro e w2 ⟨rfl, hb⟩
      (have hc0 := keep (p := ⟨w.heap.size, 0, none⟩) (v := .slice a xs.length c) hb (by simp [go_sem, *]); have hf0 := keepf (p := ⟨w.heap.size, 0, none⟩) (v := .slice a xs.length c) hb (by simp [go_sem, *]) (by simp [go_sem, *]); have hl0 := World.block_lt_of_cell? _ _ hc0)
      have hB := Lib.hid (bthen hb1.out hb)
      have hx2 := Lib.hid (hx.kept hB.out)
      have hu2 := Lib.hid (hu.kept hB.out)
      have hsz2 := hB.out.size
      clear hb hpc
      go_upto_region 6 with (fail)
      go_cut [9, 10] from 25 to 26 (fun s9 s10 wx => ∃ (B g : Nat), s10 = .pointer (some ⟨B, 0, none⟩) ∧ s9 = .slice (some ⟨g, 0, none⟩) 0 0 ∧ wx.heap[B]? = some (.cells #[.slice a xs.length c] 28 (0, 0)) ∧ ¬ g = B ∧ wx.ownsRow w.heap.size 28 1 (.slice (some ⟨g, 0, none⟩) 0 0) 0 [] ∧ w.heap.size < B ∧ Below w2.heap.size w2 wx)
      case first =>
        go_region
        all_goals
          go_wp2_with fail
          go_meet
          first
            | exact ⟨w2.heap.size + 1, w2.heap.size, rfl, rfl, (lit_first w2 _ (by omega)).1, by omega, (lit_first w2 _ (by omega)).2.1, by omega, (lit_first (lo := w.heap.size) w2 _ (by omega)).2.2⟩
            | exact ⟨w2.heap.size, w2.heap.size + 1, rfl, rfl, (lit_last w2 _ (by omega)).1, by omega, (lit_last w2 _ (by omega)).2.1, by omega, (lit_last (lo := w.heap.size) w2 _ (by omega)).2.2⟩
      obtain ⟨B, g, rfl, rfl, hbk, hgB, hown, hBl, hbx⟩ := hcut
      rename World => wx
      rw [hxl.out] at hbk
      have hBx := Lib.hid (bthen hB.out hbx)
      have hod0 := Lib.hid (OD.nil w.heap.size wx 28 2 hown)
      have hxx := Lib.hid (hx2.out.kept hbx)
      have hbk0 := Lib.hid hbk
      have hgB' := Lib.hid hgB
      clear hbx hown hbk hgB hc0 hf0
      go_wp2_with fail
      go_loopw [9, 29] (fun v i wr => ∃ (k : Nat) (a' : Option Addr) (c' : Nat) (ab : Option Addr) (cb : Nat), k ≤ N ∧ i = .int .i64 k ∧ v = .slice a' k c' ∧ OD w.heap.size wr.heap.size wr 28 2 a' c' ((paCards s xs us).take k) ∧ (∀ q, a' = some q → ¬ q.block = B) ∧ wr.heap[B]? = some (.cells #[.slice ab s.size cb] 28 (0, 0)) ∧ RI wr ab (paBef s xs us k) ∧ Hid ((paBef s xs us k).length = s.size) ∧ Hid ((us.take k).all (fun u => punchedC s u == 0) = true) ∧ Below w.heap.size w wr) (fun _ i _ => N - (intOf i).toNat)
      case atStart => exact ⟨0, some ⟨g, 0, none⟩, 0, a, c, by omega, rfl, rfl, hod0.out, fun q hq => by (cases hq; exact hgB'.out), hbk0.out, hxx.out, Lib.hid hxl.out, Lib.hid rfl, hBx.out⟩
      case round =>
        obtain ⟨k, a3, c3, ab, cb, hk, rfl, rfl, hod, hne, hbk, hrb, hlen, hall, hBr⟩ := hrel
        replace hod := Lib.hid hod
        replace hne := Lib.hid hne
        replace hrb := Lib.hid hrb
        have hszr := hBr.size
        replace hBr := Lib.hid hBr
        have hcb := (blk1_cell hbk).1
        have hfb := (blk1_cell hbk).2
        have hBlt := World.block_lt_of_cell? _ _ hcb
        replace hBlt : B < wr.heap.size := hBlt
        replace hbk := Lib.hid hbk
        have hlk := Lib.hid (show ((paCards s xs us).take k).length = k by rw [List.length_take, paCards_length, hN'.out]; omega)
        have hm63 := Lib.hid (show k + 1 ≤ maxLen by unfold maxLen; omega)
        by_cases hlt : k < N
        · obtain ⟨u, huk⟩ := get_some (l := us) (k := k) (by rw [hN'.out]; exact hlt)
          obtain ⟨b1, o1, rfl, hcu⟩ := (hu.kept hBr.out).at huk
          have hun := Lib.hid (hub.out u (List.mem_of_getElem? huk))
          have huk' := Lib.hid huk
          have hbs := Lib.hid (paBef_succ (s := s) (xs := xs) huk)
          have htk := Lib.hid (paCards_take (s := s) (xs := xs) huk)
          generalize hY : paBef s xs us k = y at *
          have hY' := Lib.hid hY
          clear hY huk
          have hlt' : (k : Int) < (N : Int) := by omega
          by_cases hz : punchedC s u = 0
          · have hz' := Lib.hid hz
            have hzl := Lib.hid (punched_len (xs := y) hz)
            have hpun := Lib.hid (show Calls Try.prog 43 #[.string s, .agg #[.slice ab s.size cb], .string u] wr fun e w' => ∃ a' c', e = .returned (.tuple #[.agg #[.slice a' s.size c'], .int .i64 0]) ∧ w'.ownsRow wr.heap.size 2 1 (.slice a' s.size c') s.size ((punchedL s u y).map (Value.int .i64)) ∧ Below wr.heap.size wr w' by
              have h := impl_punched s ab cb y u wr hrb.out hs hun.out hlen.out
              rw [hlen.out, hzl.out, hz] at h
              exact h)
            generalize punchedL s u y = z at *
            clear hz
            go_wp2_with fail
            refine hpun.out.mono ?_
            rintro e w5 ⟨a5, c5, rfl, ho5, hb5⟩
            obtain ⟨hs0_, hd⟩ := hod.out.parts
            have hbp := below_alloc (w := w5) (.cells #[.slice a5 s.size c5] 28)
            have hcp : (w5.alloc (.cells #[.slice a5 s.size c5] 28)).cell? ⟨w5.heap.size, 0, none⟩ = some (.slice a5 s.size c5) := by simp [go_sem]
            have hsz5 := hb5.size
            have hb5p := Lib.hid (bthen hb5 hbp)
            have hbk2 := Lib.hid (blk1_kept hbk.out hb5p.out)
            have hdp := Lib.hid (hd.kept hb5p.out)
            have hox := Lib.hid ((OV.of ho5).kept hbp)
            have hox5 := Lib.hid (fun q (hq : a5 = some q) => (own_at ho5 hq).1)
            have hov := Lib.hid (hdp.out.row hlk.out)
            have hovl := Lib.hid (fun q (hq : a3 = some q) => hd.2.1.2 q hq)
            have hps := Lib.hid (fun (v6 : Option Addr) (c6 : Nat) (w6 : World) (hg : ((w5.alloc (.cells #[.slice a5 s.size c5] 28)).alloc (.cells #[.slice a5 s.size c5] 28)).grownBy w6 (Value.slice a3 k c3).ownBlock) (h5 : w6.ownsRow w.heap.size 28 1 (.slice v6 (k + 1) c6) (k + 1) (headsV hs0_ ((paCards s xs us).take k) ++ [.slice a5 s.size c5])) => (hdp.out.kept (below_alloc (.cells #[.slice a5 s.size c5] 28))).pushN (by decide) (by omega) (by simp only [World.size_alloc]; omega) hzl.out hlk.out ((hox.out.kept (below_alloc (.cells #[.slice a5 s.size c5] 28))).1) hg h5)
            have hcq := Lib.hid (keep (below_alloc (.cells #[.slice a5 s.size c5] 28)) hcp)
            have hnw := Lib.hid (by have h := news_one (w5.alloc (.cells #[.slice a5 s.size c5] 28)) (.slice a5 s.size c5) 28; rw [World.size_alloc] at h; exact h)
            clear hd ho5 hb5 hbp hcb hfb hcu
            go_wp2_with (at_builtin; refine wpList_append_own_at _ rfl _ _ 41 rfl w.heap.size 28 i0 (.agg #[.slice none 0 0]) 1 24 Try.underlying41 hi hz0 hz1 hz2 rfl (by decide) _ k (headsV hs0_ ((paCards s xs us).take k)) rfl (hov.out.alloc _) ⟨_, 0, none⟩ 1 1 [.slice a5 s.size c5] rfl rfl hnw.out (one_one rfl) hm63.out (by omega) (by simp only [World.size_alloc, World.size_setCell]; omega) ?_; intro v6 w6 hown6 hg6 _ hat6; have hcp6 := (hg6.cell_far ⟨w5.heap.size, 0, none⟩ (by show w5.heap.size < _; simp only [World.size_alloc]; omega) (own_ne (fun q hq => by have := hovl.out q hq; show ¬ q.block = w5.heap.size; omega))).trans hcq.out; have hbk6 := blk_far ((heap_alloc_old _ _ (by simp only [World.size_alloc]; omega)).trans hbk2.out) hg6 (own_ne hne.out); have hcb6 := (blk1_cell hbk6).1; have hfb6 := (blk1_cell hbk6).2; replace hbk6 := Lib.hid hbk6; have hB6 := Lib.hid (((bthen hBr.out hb5p.out).alloc (by simp only [World.size_alloc]; omega) _).grown hg6 (by simp only [World.size_alloc]; omega) (fun k hk => (hov.out.lt k hk).1)); have hox6 := Lib.hid ((hox.out.kept (below_alloc (.cells #[.slice a5 s.size c5] 28))).grown hg6 (fun p hp => own_ne (fun q hq => by have h1 := hovl.out q hq; have h2 := hox5.out p hp; omega))); obtain ⟨a6, c6, hv6, _, _⟩ := own_slice hown6; subst hv6; have hne6 := Lib.hid (ne_moved hat6 hne.out (by simp only [World.size_alloc]; omega)); have hod6 := Lib.hid (hps.out _ _ _ hg6 hown6); clear hown6 hg6 hat6 hcp)
            go_roundw
            case rel =>
              refine ⟨k + 1, a6, c6, a5, c5, by omega, by go_num, rfl, ?_, hne6.out, blk1_set hbk6.out, ?_, Lib.hid (by rw [hbs.out]; exact hzl.out), Lib.hid (all_succ huk'.out hall.out (by simp [hz'.out])), hB6.out.setCell (by dsimp only; omega) _⟩
              · rw [htk.out]
                have h9 := hod6.out.off hbk6.out hne6.out (by decide) 0 (.slice a5 s.size c5)
                simpa only [World.size_setCell] using h9
              · rw [hbs.out]
                exact (hox6.out.far hbk6.out (by decide) 0 _).row
            case measure => simp [intOf]; omega
          · have hf := Lib.hid (pa_hit hcode.out (by rw [hN'.out]; exact hl) huk'.out hall.out hz)
            have hne0 : (punchedC s u != 0) = true := by simpa using hz
            have hpun := Lib.hid (show Calls Try.prog 43 #[.string s, .agg #[.slice ab s.size cb], .string u] wr fun e w' => ∃ a' c', e = .returned (.tuple #[.agg #[.slice a' 0 c'], .int .i64 (punchedC s u)]) ∧ Below wr.heap.size wr w' by
              have h := impl_punched s ab cb y u wr hrb.out hs hun.out hlen.out
              rw [hlen.out, punched_bad y rfl hz] at h
              exact h.mono fun e w' ⟨a', c', he, _, hb⟩ => ⟨a', c', he, hb⟩)
            clear hz
            generalize punchedC s u = cv at *
            go_wp2_with fail
            refine hpun.out.mono ?_
            rintro e w5 ⟨a5, c5, rfl, hb5⟩
            have hb5p := Lib.hid (bthen hBr.out (bthen hb5 (below_alloc (.cells #[.slice a5 0 c5] 28))))
            clear hb5 hcb hfb hcu
            go_wp2_with fail
            go_ret2
            exact ⟨none, 0, by rw [hf.out.1, hf.out.2]; rfl, by rw [hf.out.2]; exact OD.nil _ _ _ _ (World.ownsRow_nil _ _ _ _), hb5p.out⟩
        · have hf := Lib.hid (pa_end hcode.out (by rw [hN'.out]; exact hl) (k := k) (by rw [hN'.out]; omega) hall.out)
          have hkN : k = N := by omega
          have hto := Lib.hid (show (paCards s xs us).take k = paCards s xs us from List.take_of_length_le (by rw [paCards_length, hN'.out]; omega))
          go_wp2_with fail
          go_ret2
          have h9 := hod.out
          rw [hto.out] at h9
          exact ⟨a3, c3, by rw [hf.out.1, hf.out.2, paCards_length, hN'.out]; simp [hkN], by rw [hf.out.2]; exact h9, hBr.out⟩
    · have hf := Lib.hid (pa_full h' (us := us) (by rw [hN'.out]; exact hl))
      have hl' : (40 : Int) < (N : Int) := by omega
      clear h' h3
      go_enter Try.func22, Try.ntmps22
      go_wp2_with fail
      refine hpc.out.mono ?_
      rintro e w2 ⟨rfl, hb⟩
      have hB := Lib.hid (bthen hb1.out hb)
      clear hb hpc
      go_wp2_with fail
      go_ret2
      exact ⟨none, 0, by rw [hf.out.1, hf.out.2]; rfl, by rw [hf.out.2]; exact OD.nil _ _ _ _ (World.ownsRow_nil _ _ _ _), hB.out⟩
set_option maxHeartbeats 4000000 in
theorem spec_PunchAll (s : ByteArray) (a : Option Addr) (c : Nat) (xs : List Int) (ua : Option Addr) (uc : Nat) (us : List ByteArray) (w : World) (hx : RI w a xs) (hu : RS w ua us) (hs : s.size ≤ 1048576) (hn : xs.length ≤ 1048576) (hum : textsSz us ≤ 1048576) :
    Calls Try.prog 20 #[.string s, .agg #[.slice a xs.length c], .slice ua us.length uc] w fun e w' => ∃ a' c', e = .returned (.tuple #[.slice a' (paL s xs us).length c', .int .i64 (paCode s xs us)]) ∧ OD w.heap.size w'.heap.size w' 28 2 a' c' (paL s xs us) ∧ Below w.heap.size w w' := by
  obtain ⟨i0, hi, hz0, hz1, hz2⟩ := info_parts Try.info_card
  have hb1 := Lib.hid (below_alloc (w := w) (.cells #[.slice a xs.length c] 28))
  have hca : (w.alloc (.cells #[.slice a xs.length c] 28)).cell? ⟨w.heap.size, 0, none⟩ = some (.slice a xs.length c) := by simp [go_sem]
  have hpc := Lib.hid (spec_l05Code w.heap.size s a c xs _ hca (hx.kept hb1.out) hs (small hn))
  have hub := Lib.hid (fun (u : ByteArray) (hk : u ∈ us) => textsSz_mem hk hum)
  have hul : us.length ≤ 1048576 := Nat.le_trans (textsSz_len us) hum
  clear hum
  generalize hN : us.length = N at *
  have hN' := Lib.hid hN
  clear hN
  cases h : (progI s xs == 0)
  · have hf := Lib.hid (pa_bad us h)
    have hne : (progI s xs != 0) = true := by simpa using h
    go_enter Try.func20, Try.ntmps20
    go_wp2_with (go_at_call 49; ((with_reducible refine hpc.out.mono ?_); rintro e w2 ⟨rfl, rfl⟩))
    go_ret2
    exact ⟨none, 0, by rw [hf.out.1, hf.out.2]; rfl, by rw [hf.out.2]; exact OD.nil _ _ _ _ (World.ownsRow_nil _ _ _ _), hb1.out⟩
  · have h' : progI s xs = 0 := by simpa using h
    obtain ⟨_, _, h3⟩ := progI_zero h'
    have hpc2 := hpc.out
    rw [h'] at hpc2
    replace hpc := Lib.hid hpc2
    clear h hpc2
    by_cases hl : N ≤ 40
    · have hl' : (N : Int) ≤ 40 := by omega
      have hcode := Lib.hid h'
      have hxl := Lib.hid h3
      clear h' h3
      have hw3 := Lib.hid (bthen hb1.out (bthen (below_alloc (w := (w.alloc (.cells #[.slice a xs.length c] 28))) (.cells #[] 28)) (below_alloc (.cells #[.slice a xs.length c] 28))))
      have hod0 := Lib.hid (OD.nil w.heap.size (((w.alloc (.cells #[.slice a xs.length c] 28)).alloc (.cells #[] 28)).alloc (.cells #[.slice a xs.length c] 28)) 28 2 (a := some ⟨w.heap.size + 1, 0, none⟩) (c := 0) (by
        have h2 := (World.ownsRow_lit (base := w.heap.size) (e := 28) (size := 1) (w.alloc (.cells #[.slice a xs.length c] 28)) #[] 0 (by simp) (by simp [maxLen]) rfl).alloc (.cells #[.slice a xs.length c] 28)
        rw [World.size_alloc] at h2
        exact h2))
      have hbk0 := Lib.hid (show (((w.alloc (.cells #[.slice a xs.length c] 28)).alloc (.cells #[] 28)).alloc (.cells #[.slice a xs.length c] 28)).heap[w.heap.size + 1 + 1]? = some (.cells #[.slice a s.size c] 28 (0, 0)) by
        rw [← hxl.out]
        have h1 := heap_alloc_new ((w.alloc (.cells #[.slice a xs.length c] 28)).alloc (.cells #[] 28)) (.cells #[.slice a xs.length c] 28)
        rw [World.size_alloc, World.size_alloc] at h1
        exact h1)
      go_enter Try.func20, Try.ntmps20
      go_wp2_with (go_at_call 49; ((with_reducible refine hpc.out.mono ?_); rintro e w2 ⟨rfl, rfl⟩))
      go_loopw [9, 11] (fun v i wr => ∃ (k : Nat) (a' : Option Addr) (c' : Nat) (ab : Option Addr) (cb : Nat), k ≤ N ∧ i = .int .i64 k ∧ v = .slice a' k c' ∧ OD w.heap.size wr.heap.size wr 28 2 a' c' ((paCards s xs us).take k) ∧ (∀ q, a' = some q → ¬ q.block = (w.heap.size + 1 + 1)) ∧ wr.heap[(w.heap.size + 1 + 1)]? = some (.cells #[.slice ab s.size cb] 28 (0, 0)) ∧ RI wr ab (paBef s xs us k) ∧ Hid ((paBef s xs us k).length = s.size) ∧ Hid ((us.take k).all (fun u => punchedC s u == 0) = true) ∧ Below w.heap.size w wr) (fun _ i _ => N - (intOf i).toNat)
      case atStart => exact ⟨0, some ⟨w.heap.size + 1, 0, none⟩, 0, a, c, by omega, rfl, rfl, hod0.out, fun q hq => by (cases hq; simp), hbk0.out, hx.kept hw3.out, Lib.hid hxl.out, Lib.hid rfl, hw3.out⟩
      case round =>
        generalize hBB : w.heap.size + 1 + 1 = B at *
        have hBl : w.heap.size < B := by omega
        clear hBB
        obtain ⟨k, a3, c3, ab, cb, hk, rfl, rfl, hod, hne, hbk, hrb, hlen, hall, hBr⟩ := hrel
        replace hod := Lib.hid hod
        replace hne := Lib.hid hne
        replace hrb := Lib.hid hrb
        have hszr := hBr.size
        replace hBr := Lib.hid hBr
        have hcb := (blk1_cell hbk).1
        have hfb := (blk1_cell hbk).2
        have hBlt := World.block_lt_of_cell? _ _ hcb
        replace hBlt : B < wr.heap.size := hBlt
        replace hbk := Lib.hid hbk
        have hlk := Lib.hid (show ((paCards s xs us).take k).length = k by rw [List.length_take, paCards_length, hN'.out]; omega)
        have hm63 := Lib.hid (show k + 1 ≤ maxLen by unfold maxLen; omega)
        by_cases hlt : k < N
        · obtain ⟨u, huk⟩ := get_some (l := us) (k := k) (by rw [hN'.out]; exact hlt)
          obtain ⟨b1, o1, rfl, hcu⟩ := (hu.kept hBr.out).at huk
          have hun := Lib.hid (hub.out u (List.mem_of_getElem? huk))
          have huk' := Lib.hid huk
          have hbs := Lib.hid (paBef_succ (s := s) (xs := xs) huk)
          have htk := Lib.hid (paCards_take (s := s) (xs := xs) huk)
          generalize hY : paBef s xs us k = y at *
          have hY' := Lib.hid hY
          clear hY huk
          have hlt' : (k : Int) < (N : Int) := by omega
          have hck := Lib.hid (spec_l05Check s u wr hs hun.out)
          by_cases hz : punchedC s u = 0
          · have hz' := Lib.hid hz
            have hzl := Lib.hid (punched_len (xs := y) hz)
            have hck2 := hck.out
            rw [hz] at hck2
            replace hck := Lib.hid hck2
            have hpun := Lib.hid (show Calls Try.prog 50 #[.string s, .pointer (some ⟨B, 0, none⟩), .string u] wr fun e w' => ∃ a' c', e = .returned (.agg #[.slice a' s.size c']) ∧ w'.ownsRow wr.heap.size 2 1 (.slice a' s.size c') s.size ((punchedL s u y).map (Value.int .i64)) ∧ Below wr.heap.size wr w' by
              have h := spec_l05Punch B s ab cb y u wr (by rw [hlen.out]; exact hcb) hrb.out hs hun.out hlen.out hz
              rw [hzl.out] at h
              exact h)
            generalize punchedL s u y = z at *
            clear hz hck2
            go_wp2_with (go_at_call 46; ((with_reducible refine hck.out.mono ?_); rintro e w' ⟨rfl, rfl⟩))
            refine hpun.out.mono ?_
            rintro e w5 ⟨a5, c5, rfl, ho5, hb5⟩
            obtain ⟨hs0_, hd⟩ := hod.out.parts
            have hsz5 := hb5.size
            have hb5p := Lib.hid hb5
            have hbk2 := blk1_kept hbk.out hb5
            have hcb2 := (blk1_cell hbk2).1
            have hfb2 := (blk1_cell hbk2).2
            have hdp := Lib.hid ((hd.kept hb5).off hbk2 hne.out (by decide) 0 (.slice a5 s.size c5))
            have hox := Lib.hid (OV.far (OV.of ho5) hbk2 (by decide) 0 (.slice a5 s.size c5))
            have hox5 := Lib.hid (fun q (hq : a5 = some q) => (own_at ho5 hq).1)
            have hbk3 := Lib.hid (blk1_set (v := (.slice a5 s.size c5)) hbk2)
            have hov := Lib.hid (hdp.out.row hlk.out)
            have hovl := Lib.hid (fun q (hq : a3 = some q) => hd.2.1.2 q hq)
            have hps := Lib.hid (fun (v6 : Option Addr) (c6 : Nat) (w6 : World) (hg : ((w5.setCell ⟨B, 0, none⟩ (.slice a5 s.size c5)).alloc (.cells #[.slice a5 s.size c5] 28)).grownBy w6 (Value.slice a3 k c3).ownBlock) (h5 : w6.ownsRow w.heap.size 28 1 (.slice v6 (k + 1) c6) (k + 1) (headsV hs0_ ((paCards s xs us).take k) ++ [(.slice a5 s.size c5)])) => (hdp.out.kept (below_alloc (.cells #[.slice a5 s.size c5] 28))).pushN (by decide) (by omega) (by first | omega | (simp only [World.size_alloc, World.size_setCell]; omega)) hzl.out hlk.out ((hox.out.kept (below_alloc (.cells #[.slice a5 s.size c5] 28))).1) hg h5)
            have hnw := Lib.hid (by have h := news_one (w5.setCell ⟨B, 0, none⟩ (.slice a5 s.size c5)) (.slice a5 s.size c5) 28; rw [World.size_setCell] at h; exact h)
            clear hd ho5 hb5 hbk2 hcb hfb hcu
            go_wp2_with (at_builtin; refine wpList_append_own_at _ rfl _ _ 41 rfl w.heap.size 28 i0 (.agg #[.slice none 0 0]) 1 24 Try.underlying41 hi hz0 hz1 hz2 rfl (by decide) _ k (headsV hs0_ ((paCards s xs us).take k)) rfl (hov.out.alloc _) ⟨_, 0, none⟩ 1 1 [.slice a5 s.size c5] rfl rfl hnw.out (one_one rfl) hm63.out (by omega) (by simp only [World.size_alloc, World.size_setCell]; omega) ?_; intro v6 w6 hown6 hg6 _ hat6; have hbk6 := Lib.hid (blk_far ((heap_alloc_old _ _ (by first | omega | (simp only [World.size_alloc, World.size_setCell]; omega))).trans hbk3.out) hg6 (own_ne hne.out)); have hB6 := Lib.hid ((((bthen hBr.out hb5p.out).setCell (p := ⟨B, 0, none⟩) (by dsimp only; omega) _).alloc (by first | omega | (simp only [World.size_alloc, World.size_setCell]; omega)) _).grown hg6 (by first | omega | (simp only [World.size_alloc, World.size_setCell]; omega)) (fun k hk => (hov.out.lt k hk).1)); have hox6 := Lib.hid ((hox.out.kept (below_alloc (.cells #[.slice a5 s.size c5] 28))).grown hg6 (fun p hp => own_ne (fun q hq => by have h1 := hovl.out q hq; have h2 := hox5.out p hp; omega))); obtain ⟨a6, c6, hv6, _, _⟩ := own_slice hown6; subst hv6; have hne6 := Lib.hid (ne_moved hat6 hne.out (by first | omega | (simp only [World.size_alloc, World.size_setCell]; omega))); have hod6 := Lib.hid (hps.out _ _ _ hg6 hown6); clear hown6 hg6 hat6 hcb2 hfb2)
            go_roundw
            case rel =>
              refine ⟨k + 1, a6, c6, a5, c5, by omega, by go_num, rfl, ?_, hne6.out, hbk6.out, ?_, Lib.hid (by rw [hbs.out]; exact hzl.out), Lib.hid (all_succ huk'.out hall.out (by simp [hz'.out])), hB6.out⟩
              · rw [htk.out]; exact hod6.out
              · rw [hbs.out]; exact hox6.out.row
            case measure => simp [intOf]; omega
          · have hf := Lib.hid (pa_hit hcode.out (by rw [hN'.out]; exact hl) huk'.out hall.out hz)
            have hne0 : (punchedC s u != 0) = true := by simpa using hz
            clear hz
            generalize punchedC s u = cv at *
            go_wp2_with (go_at_call 46; ((with_reducible refine hck.out.mono ?_); rintro e w' ⟨rfl, rfl⟩))
            go_ret2
            exact ⟨none, 0, by rw [hf.out.1, hf.out.2]; rfl, by rw [hf.out.2]; exact OD.nil _ _ _ _ (World.ownsRow_nil _ _ _ _), hBr.out⟩
        · have hf := Lib.hid (pa_end hcode.out (by rw [hN'.out]; exact hl) (k := k) (by rw [hN'.out]; omega) hall.out)
          have hkN : k = N := by omega
          have hto := Lib.hid (show (paCards s xs us).take k = paCards s xs us from List.take_of_length_le (by rw [paCards_length, hN'.out]; omega))
          go_wp2_with fail
          go_ret2
          have h9 := hod.out
          rw [hto.out] at h9
          exact ⟨a3, c3, by rw [hf.out.1, hf.out.2, paCards_length, hN'.out]; simp [hkN], by rw [hf.out.2]; exact h9, hBr.out⟩
    · have hf := Lib.hid (pa_full h' (us := us) (by rw [hN'.out]; exact hl))
      have hl' : (40 : Int) < (N : Int) := by omega
      clear h' h3
      go_enter Try.func20, Try.ntmps20
      go_wp2_with (go_at_call 49; ((with_reducible refine hpc.out.mono ?_); rintro e w2 ⟨rfl, rfl⟩))
      go_ret2
      exact ⟨none, 0, by rw [hf.out.1, hf.out.2]; rfl, by rw [hf.out.2]; exact OD.nil _ _ _ _ (World.ownsRow_nil _ _ _ _), hb1.out⟩
end Go.Proofs.Ytoeohebobmkobaa
