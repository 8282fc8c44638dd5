/- A region that draws its order, walked in one order that is checked once: what yields its value in every world that meets a condition is taken first, a call where it is the only operation that may come up. No program in sight. The order in which the law's great comparison is walked. -/
import Derived.Deep.RegionHeld3
import Derived.KernelRfl
import Derived.Test.YtmpfnkheohlmiaaGreatDoorProg
namespace Go.Proofs.YtmpfnkheohlmiaaGreatDoor
open Go
set_option linter.unusedVariables false

/-- the order: taken first (true), or the only one that may come up (false) -/
def seqOK (md : Region.Mode) (ops : Array Oper) : Array Bool → List (Nat × Bool) → Bool
  | listed, [] => (Region.ready md ops listed).isEmpty
  | listed, (i, true) :: r => Region.free md ops listed i && (Region.ready md ops listed).contains i && seqOK md ops (listed.setIfInBounds i true) r
  | listed, (i, false) :: r => (Region.ready md ops listed == [i]) && seqOK md ops (listed.setIfInBounds i true) r
section
variable {P : Program} {ops : Array Oper} {Q : Exit → Act → World → Prop} {md : Region.Mode} {S : World → Prop}
/-- the walk in that order -/
def wpSeq (P : Program) (ops : Array Oper) (Q : Exit → Act → World → Prop) (S : World → Prop) : List (Nat × Bool) → Act → World → Prop
  | [], a, w => Q .normal a w
  | (i, true) :: r, a, w => ∃ oi v, ops[i]? = some oi ∧ (∀ c a w, Q (.panic c) (a.put oi.dst v) w → Q (.panic c) a w) ∧ YieldsIf P ops S oi v a ∧ S w ∧ wpSeq P ops Q S r (a.put oi.dst v) w
  | (i, false) :: r, a, w => ∃ oi, ops[i]? = some oi ∧ ∀ K : Act → World → Prop, Shut (∀ a w, S w → (S w → wpSeq P ops Q S r a w) → K a w) → if Region.wanted oi (yielded ops a.tmps) = true then Oper.wp P oi a w K Q else K (a.put oi.dst undef) w
theorem wpSeq_take {i : Nat} {r : List (Nat × Bool)} {a : Act} {w : World} {oi : Oper} {v : Value} (hi : ops[i]? = some oi) (hQ : ∀ c a w, Q (.panic c) (a.put oi.dst v) w → Q (.panic c) a w) (hy : YieldsIf P ops S oi v a) (hS : S w) (h : wpSeq P ops Q S r (a.put oi.dst v) w) : wpSeq P ops Q S ((i, true) :: r) a w := ⟨oi, v, hi, hQ, hy, hS, h⟩
theorem wpSeq_call {i : Nat} {r : List (Nat × Bool)} {a : Act} {w : World} {oi : Oper} (hi : ops[i]? = some oi) (h : ∀ K : Act → World → Prop, Shut (∀ a w, S w → (S w → wpSeq P ops Q S r a w) → K a w) → if Region.wanted oi (yielded ops a.tmps) = true then Oper.wp P oi a w K Q else K (a.put oi.dst undef) w) : wpSeq P ops Q S ((i, false) :: r) a w := ⟨oi, hi, h⟩
theorem wpSeq_skip {i : Nat} {r : List (Nat × Bool)} {a : Act} {w : World} {oi : Oper} (hi : ops[i]? = some oi) (hw : Region.wanted oi (yielded ops a.tmps) = false) (hS : S w) (h : wpSeq P ops Q S r (a.put oi.dst undef) w) : wpSeq P ops Q S ((i, false) :: r) a w := ⟨oi, hi, fun K hK => by rw [hw]; exact hK.out _ _ hS (fun _ => h)⟩
theorem wpSeq_done {a : Act} {w : World} (h : Q .normal a w) : wpSeq P ops Q S [] a w := h
theorem wpAnyH_seq (hs : Region.noSelect ops = true) : ∀ (o : List (Nat × Bool)) (fuel : Nat) (listed : Array Bool) (a : Act) (w : World), o.length ≤ fuel → seqOK md ops listed o = true → wpSeq P ops Q S o a w → wpAnyH P md ops Q S fuel listed a w
  | [], fuel, listed, a, w, _, hk, h => wpAnyH_done (by simpa [seqOK] using hk) h fuel
  | (i, true) :: r, 0, listed, a, w, hf, hk, h => by simp at hf
  | (i, false) :: r, 0, listed, a, w, hf, hk, h => by simp at hf
  | (i, true) :: r, fuel + 1, listed, a, w, hf, hk, h => by
    obtain ⟨oi, v, hi, hQ, hy, hS, h⟩ := h
    simp only [seqOK, Bool.and_eq_true] at hk
    exact wpAnyH_take hi hs hk.1.1 hk.1.2 hQ hy hS (wpAnyH_seq hs r fuel _ _ _ (by simpa using hf) hk.2 h)
  | (i, false) :: r, fuel + 1, listed, a, w, hf, hk, h => by
    obtain ⟨oi, hi, h⟩ := h
    simp only [seqOK, Bool.and_eq_true, beq_iff_eq] at hk
    refine wpAnyH_ready (rs := [i]) hk.1 (by simp) (AllReadyH.cons hi (fun K hK => h K ?_) AllReadyH.nil)
    exact fun a w hS g => hK.out a w hS fun hS2 => wpAnyH_seq hs r fuel _ _ _ (by simpa using hf) hk.2 (g hS2)
theorem wp_region_seq {ops' : Array Oper} {id : Nat} {a : Act} {w : World} (o : List (Nat × Bool)) (he : ops = ops') (hm : P.follows .mixedOrders = true) (hs : Region.noSelect ops' = true) (hl : o.length ≤ ops'.size) (hk : seqOK .any ops' (Array.replicate ops'.size false) o = true) (hS : S w.drew) (h : S w.drew → wpSeq P ops Q S o a w.drew) : (Code.region id ops true).wp P Q a w := by
  subst he
  exact wp_region_held_drew hm hS fun hS2 => wpAnyH_seq hs o _ _ _ _ hl hk (h hS2)
end
/-- the operations of region k of a code -/
def opsIn (k : Nat) : Code → Option (Array Oper)
  | .region id ops _ => if id = k then some ops else none
  | .seq a b => match opsIn k a with | some x => some x | none => opsIn k b
  | .cond _ a b => match opsIn k a with | some x => some x | none => opsIn k b
  | .block _ b => opsIn k b
  | .loop b => opsIn k b
  | .scope b => opsIn k b
  | _ => none
end Go.Proofs.YtmpfnkheohlmiaaGreatDoor
namespace Go.Proofs.YtmpfnkheohlmiaaGreatDoor
open Go
noncomputable def OPS : Array Oper := ((Tryz.f3.body).bind (opsIn 19)).getD #[]
def ORD : List (Nat × Bool) := [(0, true), (1, true), (2, true), (3, true), (4, true), (5, true), (6, false), (7, true), (8, true), (9, true), (10, true), (11, true), (12, true), (13, true), (14, true), (15, true), (16, true), (17, false), (18, true), (19, true), (20, true), (21, true), (22, true), (23, false), (24, true), (25, true), (26, true), (27, true), (28, true), (29, true), (30, true), (31, true), (32, true), (33, true), (34, true), (35, true), (36, true), (37, false), (38, true), (39, true), (40, true), (41, true), (42, true), (43, true), (44, true), (45, true), (46, true), (47, true), (48, true), (49, false), (50, true), (51, true), (52, true), (53, true), (54, true), (55, true), (56, true), (57, true), (58, true), (59, true), (60, false), (61, true), (62, true), (63, true), (64, true), (65, true), (67, true), (68, true), (66, false), (69, false), (70, true), (71, true), (72, true), (73, true), (75, true), (74, false), (76, false), (77, true), (78, true)]
theorem ops_noSelect : Region.noSelect OPS = true := by kernel_rfl
theorem ops_size : ORD.length ≤ OPS.size := Nat.le_of_eq (by kernel_rfl)
theorem ops_order : seqOK .any OPS (Array.replicate OPS.size false) ORD = true := by kernel_rfl
noncomputable def OPS2 : Array Oper := ((Tryz.f3.body).bind (opsIn 31)).getD #[]
def ORD2 : List (Nat × Bool) := [(0, true), (1, true), (2, true), (3, true), (4, true), (5, true), (6, true), (7, true), (8, true), (9, true), (10, true), (11, true), (12, true), (13, true), (14, true), (15, true), (16, true), (17, true), (18, true), (19, true), (20, true), (21, true), (22, true), (23, true), (24, true), (25, true), (26, true), (27, true), (28, true), (29, true), (30, true), (31, true), (32, true), (33, true), (34, true), (35, true), (36, true), (37, true), (38, true), (39, true), (40, true), (41, true), (42, true)]
theorem ops2_noSelect : Region.noSelect OPS2 = true := by kernel_rfl
theorem ops2_size : ORD2.length ≤ OPS2.size := Nat.le_of_eq (by kernel_rfl)
theorem ops2_order : seqOK .any OPS2 (Array.replicate OPS2.size false) ORD2 = true := by kernel_rfl
end Go.Proofs.YtmpfnkheohlmiaaGreatDoor
