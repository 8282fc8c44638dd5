/- The walks of the functions that draw layouts, names, decks and values for the laws: what is drawn is small and lies in rows of the call's own; memory has at most new blocks. -/
import Derived.Test.YtmpfnkheohlmiaaGreatDoorDrD
import Derived.Test.YtmpfnkheohlmiaaGreatDoorDrE
namespace Go.Proofs.YtmpfnkheohlmiaaGreatDoor
open Go.RowKit
set_option maxRecDepth 100000
set_option linter.unusedVariables false
set_option linter.unusedSimpArgs false
set_option linter.unnecessarySimpa false

theorem heldS3 {B g : Nat} {v V : World} {p q : Addr} {x y : Value} (hw : With2 B g v V) (h : v.cell? p = some x) (k : v.cell? q = some y) (hne : ¬ p.block = B) (hng : ¬ p.block = g) (kne : ¬ q.block = B) (kng : ¬ q.block = g) : With2 B g v V ∧ V.cell? p = some x ∧ V.cell? q = some y :=
  ⟨hw, (heldS2 hw h hne hng).2, (heldS2 hw k kne kng).2⟩
theorem names6 {t : ByteArray} (h : t ∈ ([⟨#[119, 104, 111]⟩, ⟨#[100, 97, 121]⟩, ⟨#[113, 116, 121]⟩, ⟨#[112, 114, 105, 99, 101]⟩, ⟨#[110, 111, 116, 101]⟩, ⟨#[110, 111, 110, 101]⟩] : List ByteArray)) : t.size ≤ 24 := by
  simp only [List.mem_cons, List.not_mem_nil, or_false] at h
  rcases h with rfl | rfl | rfl | rfl | rfl | rfl <;> decide
theorem trimR_le (l : List UInt8) (c : UInt8) : (Lib.trimRightB l c).length ≤ l.length := by
  unfold Lib.trimRightB
  first
    | (rw [List.length_reverse]; have h := (List.dropWhile_sublist (fun x => x == c) (l := l.reverse)).length_le; rw [List.length_reverse] at h; exact h)
    | (simp; done)
theorem val_size {x : Itm} {ys : List Int} (hq : fieldB x.fr x.to ys.length = true) (h12 : x.kind = 2 → x.to - x.fr ≤ 12) (hn : ys.length ≤ 1048576) : (valS x ys).1.size ≤ 1048576 := by
  cases hk : (x.kind == 2)
  · rw [val_text ys hk]
    show ((Lib.trimRightB _ 32).toArray).size ≤ _
    have h1 := trimR_le (textOrS (partL ys x.fr x.to)).data.toList 32
    have h2 : (textOrS (partL ys x.fr x.to)).size ≤ ys.length := by
      unfold textOrS
      split
      · rw [textS_size]; exact partL_small _ _ (Nat.le_refl _)
      · exact Nat.zero_le _
    rw [len_bytes] at h1
    simp only [List.size_toArray]
    omega
  · rw [val_num ys hk]
    have h1 := valN_small hq (h12 (by simpa using hk))
    have h2 := Lib.itoa_length_le _ h1.1 h1.2
    show ((Lib.itoa _).toArray).size ≤ _
    simp only [List.size_toArray]
    omega
theorem spec_l04Name (B : Nat) (a : Option Addr) (c : Nat) (l : List UInt8) (k0 : Nat) (w : World) (h : SrcIs w B a c l k0) (hk0 : k0 ≤ 134217728) (hl : l.length ≤ 1073741824) :
    Calls Tryz.prog 55 #[.pointer (some ⟨B, 0, none⟩)] w fun e w' => ∃ t : ByteArray, e = .returned (.string t) ∧ t.size ≤ 24 ∧ SrcIs w' B a c l (k0 + 2) ∧ Within B (B + 1) w w' := by
  have hT := Lib.hid (St.start h)
  have hz := hT.out.size
  clear h
  go_enter Tryz.func55, Tryz.ntmps55
  go_wp2_with fail
  have hA := below_alloc (w := w) (.cells #[.string ⟨#[119, 104, 111]⟩, .string ⟨#[100, 97, 121]⟩, .string ⟨#[113, 116, 121]⟩, .string ⟨#[112, 114, 105, 99, 101]⟩, .string ⟨#[110, 111, 116, 101]⟩, .string ⟨#[110, 111, 110, 101]⟩] 9)
  replace hT := Lib.hid (hT.out.kept hA)
  have hrA := Lib.hid (show RS (w.alloc (.cells #[.string ⟨#[119, 104, 111]⟩, .string ⟨#[100, 97, 121]⟩, .string ⟨#[113, 116, 121]⟩, .string ⟨#[112, 114, 105, 99, 101]⟩, .string ⟨#[110, 111, 116, 101]⟩, .string ⟨#[110, 111, 110, 101]⟩] 9)) (some ⟨w.heap.size, 0, none⟩) [⟨#[119, 104, 111]⟩, ⟨#[100, 97, 121]⟩, ⟨#[113, 116, 121]⟩, ⟨#[112, 114, 105, 99, 101]⟩, ⟨#[110, 111, 116, 101]⟩, ⟨#[110, 111, 110, 101]⟩] from row_block (heap_alloc_new _ _))
  clear hA
  refine (spec_srcTextN B a c l _ (w.heap.size) 0 6 6 [⟨#[119, 104, 111]⟩, ⟨#[100, 97, 121]⟩, ⟨#[113, 116, 121]⟩, ⟨#[112, 114, 105, 99, 101]⟩, ⟨#[110, 111, 116, 101]⟩, ⟨#[110, 111, 110, 101]⟩] _ hT.out.src (by omega) hl hrA.out rfl (by omega) (by omega) (by omega)).mono ?_
  rintro e w9 ⟨s, rfl, htm, hs, hw⟩
  replace hT := Lib.hid (hT.out.step hs hw)
  have hs24 := names6 htm
  clear hs hw htm hrA
  go_wp2_with fail
  go_ret
  exact ⟨s, rfl, hs24, (hT.out.src).more (by omega), hT.out.win⟩
theorem RS4_new (w : World) (s0 s1 s2 s3 : ByteArray) (t : Nat) : RS (w.alloc (.cells #[.string s0, .string s1, .string s2, .string s3] t)) (some ⟨w.heap.size, 0, none⟩) [s0, s1, s2, s3] := row_block (heap_alloc_new _ _)
theorem texts4 {t : ByteArray} (h : t ∈ ([⟨#[]⟩, ⟨#[48]⟩, ⟨#[65]⟩, ⟨#[49]⟩] : List ByteArray)) : t.size ≤ 24 := by
  simp only [List.mem_cons, List.not_mem_nil, or_false] at h
  rcases h with rfl | rfl | rfl | rfl <;> decide
theorem OW.first {lo hi e e' c : Nat} {w : World} {a : Option Addr} {xss : List (List Int)} (h : OW lo hi w e e' a c xss) (hn : 0 < xss.length) : ∃ (g : Nat) (y : List Int) (a6 : Option Addr) (c6 : Nat), a = some ⟨g, 0, none⟩ ∧ xss[0]? = some y ∧ w.cell? ⟨g, 0, none⟩ = some (.slice a6 y.length c6) ∧ RI w a6 y ∧ y.length ≤ c6 ∧ lo ≤ g ∧ ∃ hi', OI lo hi' w e' a6 c6 y := by
  have hr := h.RD
  obtain ⟨hs, h1, h2, h3⟩ := h
  obtain ⟨g, rfl, hg1, hg2⟩ := OV.addr h2 hn
  obtain ⟨y, hy⟩ := get_some (l := xss) (k := 0) hn
  obtain ⟨p, hp⟩ := get_some (l := hs) (k := 0) (by omega)
  obtain ⟨a6, c6⟩ := p
  have ok := h3 0 _ y hp hy
  have e1 := Row.off h2.row (headsV_at hp hy)
  simp only [Nat.zero_add] at e1
  exact ⟨g, y, a6, c6, rfl, hy, e1, ok.RI, ok.cap0, hg1, _, ok⟩
end Go.Proofs.YtmpfnkheohlmiaaGreatDoor
