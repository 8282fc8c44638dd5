/- Appends to rows that a call has made, at a step of a region whose order is open. No program in sight. -/
import Derived.Test.YtcbjfgjlhjjpiaaDoorData
import Derived.Maps.AppendAt
import Derived.Deep.AppendLies
import Derived.RegionTactic
namespace Go.Proofs.YtcbjfgjlhjjpiaaDoor
open Go.RowKit
set_option linter.unusedVariables false
set_option linter.unusedSimpArgs false
set_option linter.unnecessarySimpa false

/-- the cells from an address on hold cards -/
def RDx (w : World) (a : Option Addr) (xss : List (List Int)) : Prop := ∀ (k : Nat) (x : List Int), xss[k]? = some x → ∃ b o a' c', a = some ⟨b, o, none⟩ ∧ w.cell? ⟨b, o + k, none⟩ = some (.slice a' x.length c') ∧ RI w a' x
theorem RDx.kept {w w' : World} {a : Option Addr} {xss : List (List Int)} (h : RDx w a xss) (hb : Below w.heap.size w w') : RDx w' a xss := fun k x hk => by
  obtain ⟨b, o, a', c', e, hc, hr⟩ := h k x hk
  exact ⟨b, o, a', c', e, keep hb hc, hr.kept hb⟩
theorem RDx.at {w : World} {a : Option Addr} {xss : List (List Int)} (h : RDx w a xss) {k : Nat} {x : List Int} (hk : xss[k]? = some x) : ∃ b o a' c', a = some ⟨b, o, none⟩ ∧ w.cell? ⟨b, o + k, none⟩ = some (.slice a' x.length c') ∧ RI w a' x := h k x hk
theorem RDx.one {w : World} {B c : Nat} {a : Option Addr} {xs : List Int} (hc : w.cell? ⟨B, 0, none⟩ = some (.slice a xs.length c)) (hx : RI w a xs) : RDx w (some ⟨B, 0, none⟩) [xs] := fun k x hk => by
  match k with
  | 0 => simp only [List.getElem?_cons_zero, Option.some.injEq] at hk; subst hk; exact ⟨B, 0, a, c, rfl, hc, hx⟩
  | k + 1 => simp at hk
theorem RDx.two {w : World} {B c d : Nat} {a b : Option Addr} {xs ys : List Int} (hc : w.cell? ⟨B, 0, none⟩ = some (.slice a xs.length c)) (hd : w.cell? ⟨B, 1, none⟩ = some (.slice b ys.length d)) (hx : RI w a xs) (hy : RI w b ys) : RDx w (some ⟨B, 0, none⟩) [xs, ys] := fun k x hk => by
  match k with
  | 0 => simp only [List.getElem?_cons_zero, Option.some.injEq] at hk; subst hk; exact ⟨B, 0, a, c, rfl, hc, hx⟩
  | 1 => simp only [List.getElem?_cons_succ, List.getElem?_cons_zero, Option.some.injEq] at hk; subst hk; exact ⟨B, 0, b, d, rfl, hd, hy⟩
  | k + 2 => simp at hk
section
variable {P : Program}
/-- the cells of a block that is known whole -/
theorem row_block {w : World} {B : Nat} {cs : Array Value} {t : TypeId} {fr : Nat × Nat} (h : w.heap[B]? = some (.cells cs t fr)) : Row w (some ⟨B, 0, none⟩) cs.toList := fun j v hj =>
  ⟨B, 0, rfl, by rw [Nat.zero_add, cell_of_row w B j cs t fr h]; simpa using hj⟩
theorem Row.grown {w w' : World} {row : Option Nat} {B : Nat} {vs : List Value} (h : Row w (some ⟨B, 0, none⟩) vs) (hg : w.grownBy w' row) (hne : some B ≠ row) : Row w' (some ⟨B, 0, none⟩) vs := fun j v hj => by
  obtain ⟨b, o, e, hc⟩ := h j v hj
  simp only [Option.some.injEq, Addr.mk.injEq, and_true] at e
  obtain ⟨rfl, rfl⟩ := e
  exact ⟨B, 0, rfl, (hg.cell_far _ (World.block_lt_of_cell? w _ hc) hne).trans hc⟩
/-- append onto a row of the call's own, from whatever row -/
theorem run_row (w : World) (base : Nat) (t ty e : TypeId) (i : TypeInfo) (z : Value) (size bytes : Nat) (ht : P.underlying t = some (.slice e)) (hi : P.info? e = some i) (hz : i.zero = some z)
    (hsize : i.size = size) (hby : i.bytes = bytes) (hzs : z.cells.size = size) (hsz : 0 < size) (v : Value) (n : Nat) (xs : List Value) (hown : w.ownsRow base e size v n xs)
    (A : Option Addr) (m c : Nat) (news : List Value) (hl : news.length = m * size) (hr : Row w A news) (h1 : ∀ u ∈ news, u.oneCell' = true) (h63 : n + m ≤ maxLen) (hbytes : (n + m) * bytes ≤ 140737488355328) (hbase : base ≤ w.heap.size) :
    ∃ v' w', (Builtin.append_ #[t, t] ty #[v, .slice A m c]).run P w = .ok v' w' ∧ w'.ownsRow base e size v' (n + m) (xs ++ news) ∧ w.grownBy w' v.ownBlock := by
  match A, hr with
  | some ad, hr =>
    obtain ⟨v', w', h, h2, h3, _⟩ := run_append_own_at (P := P) w base t ty e i z size bytes ht hi hz hsize hby hzs hsz v n xs hown ad m c news hl (Row.add hr) h1 h63 hbytes hbase
    exact ⟨v', w', h, h2, h3⟩
  | none, hr =>
    obtain rfl : news = [] := by
      cases news with
      | nil => rfl
      | cons u r => obtain ⟨_, _, he, _⟩ := hr 0 u rfl; cases he
    obtain rfl : m = 0 := by
      rcases Nat.eq_zero_or_pos m with h | h
      · exact h
      · have := Nat.mul_pos h hsz; simp at hl; omega
    refine ⟨v, w, ?_, by simpa using hown, World.grownBy.refl w _⟩
    rcases hown.2 with ⟨rfl, rfl⟩ | ⟨g, cap, cur, rfl, _, _, hnc, _⟩
    · simp [Builtin.append_, run_underlying ht, sizeOf, typeInfo, hi, Builtin.lenOf, Builtin.firstCells]
    · simp [Builtin.append_, run_underlying ht, sizeOf, typeInfo, hi, Builtin.lenOf, Builtin.firstCells, hnc, storeCells]
theorem step_row {w : World} {ops : Array Oper} {o : Oper} {a : Act} {K : Act → World → Prop} {Q : Exit → Act → World → Prop} {E : Prop} (hgd : o.guard = none) (s x : Operand) (t : TypeId)
    (ho : o.op = .call { callee := .builtin .append, args := #[s, x], argTypes := #[t, t] }) (base : Nat) (e : TypeId) (i : TypeInfo) (z : Value) (size bytes : Nat) (ht : P.underlying t = some (.slice e)) (hi : P.info? e = some i) (hz : i.zero = some z)
    (hsize : i.size = size) (hby : i.bytes = bytes) (hzs : z.cells.size = size) (hsz : 0 < size) (v : Value) (n : Nat) (xs : List Value) (hs : a.eval s = v) (hown : w.ownsRow base e size v n xs)
    (A : Option Addr) (m c : Nat) (news : List Value) (hx : a.eval x = .slice A m c) (hl : news.length = m * size) (hr : Row w A news) (h1 : ∀ u ∈ news, u.oneCell' = true) (h63 : n + m ≤ maxLen) (hbytes : (n + m) * bytes ≤ 140737488355328) (hbase : base ≤ w.heap.size)
    (h : ∀ v' w', w'.ownsRow base e size v' (n + m) (xs ++ news) → w.grownBy w' v.ownBlock → K (a.put o.dst v') w') : if Region.wanted o (yielded ops a.tmps) = true then Oper.wp P o a w K Q else E := by
  have hw : Region.wanted o (yielded ops a.tmps) = true := by simp [Region.wanted, hgd]
  rw [if_pos hw]
  obtain ⟨v', w', hrun, h2, h3⟩ := run_row (P := P) w base t o.type e i z size bytes ht hi hz hsize hby hzs hsz v n xs hown A m c news hl hr h1 h63 hbytes hbase
  unfold Oper.wp execOp
  simp only [ho, resolve, invoke, builtin, Sem.run_bind, Sem.run_pure, Result.andThen_ok, List.map_toArray, List.map_cons, List.map_nil, hs, hx, hrun]
  exact h v' w' h2 h3
theorem heldB {B : Nat} {r W : World} (hb : Below B r W) {b o : Nat} (hlt : b < B) {v : Value} (h : r.cell? ⟨b, o, none⟩ = some v) : W.cell? ⟨b, o, none⟩ = some v := (hb.cell (p := ⟨b, o, none⟩) hlt).trans h
theorem blk_set {w : World} {g t : Nat} {cs : Array Value} {m : Nat × Nat} (h : w.heap[g]? = some (.cells cs t m)) (j : Nat) (u : Value) : (w.setCell ⟨g, j, none⟩ u).heap[g]? = some (.cells (cs.setIfInBounds j u) t m) := by
  simp [World.setCell, Array.getElem?_modify, h]
theorem blk_set2 {w : World} {g t : Nat} {u v : Value} {m : Nat × Nat} {u' v' : Value} (h : w.heap[g]? = some (.cells #[u, v] t m)) : ((w.setCell ⟨g, 0, none⟩ u').setCell ⟨g, 1, none⟩ v').heap[g]? = some (.cells #[u', v'] t m) := blk_set (blk_set h 0 u') 1 v'
theorem OV.far2 {w : World} {lo hi e size n c g t : Nat} {a : Option Addr} {vs : List Value} {cs : Array Value} {m : Nat × Nat} (h : OV lo hi w e size a n c vs) (hg : w.heap[g]? = some (.cells cs t m)) (hne : e ≠ t) (j k : Nat) (u v : Value) : OV lo hi ((w.setCell ⟨g, j, none⟩ u).setCell ⟨g, k, none⟩ v) e size a n c vs :=
  (h.far hg hne j u).far (blk_set hg j u) hne k v
theorem OV.ne_block {w : World} {lo hi e size n c g t : Nat} {a : Option Addr} {vs : List Value} {cs : Array Value} {m : Nat × Nat} (h : OV lo hi w e size a n c vs) (hg : w.heap[g]? = some (.cells cs t m)) (hne : e ≠ t) : ∀ q, a = some q → ¬ q.block = g := by
  intro q hq hb
  obtain ⟨h1, ⟨h2, _⟩ | ⟨g', cap, cur, hv, hg', hc, r⟩⟩ := h.1
  · rw [hq] at h2; cases h2
  · simp only [Value.slice.injEq] at hv
    rw [hq] at hv
    obtain ⟨hv, _⟩ := hv
    simp only [Option.some.injEq] at hv
    subst hv
    simp only at hb
    subst hb
    rw [hg] at hc
    simp only [Option.some.injEq, Obj.cells.injEq] at hc
    exact hne hc.2.1.symm
theorem own_ne {a : Option Addr} {n c B : Nat} (h : ∀ q, a = some q → ¬ q.block = B) : some B ≠ (Value.slice a n c).ownBlock := by
  cases a with
  | none => simp [Value.ownBlock]
  | some q => simp only [Value.ownBlock, ne_eq, Option.some.injEq]; exact fun e => h q rfl e.symm
theorem blk_cell {w : World} {g t : Nat} {u v : Value} (h : w.heap[g]? = some (.cells #[u, v] t (0, 0))) : w.cell? ⟨g, 0, none⟩ = some u ∧ w.cell? ⟨g, 1, none⟩ = some v ∧ w.frozen? ⟨g, 0, none⟩ = false ∧ w.frozen? ⟨g, 1, none⟩ = false := by
  refine ⟨by rw [cell_of_row w g 0 _ t (0, 0) h]; rfl, by rw [cell_of_row w g 1 _ t (0, 0) h]; rfl, ?_, ?_⟩ <;> simp [World.frozen?, h]
theorem blk_far {w w' : World} {row : Option Nat} {g : Nat} {o : Obj} (h : w.heap[g]? = some o) (hg : w.grownBy w' row) (hne : some g ≠ row) : w'.heap[g]? = some o :=
  (hg.block g (by rcases Nat.lt_or_ge g w.heap.size with hlt | hge; exact hlt; rw [Array.getElem?_eq_none hge] at h; cases h) hne).trans h
end
end Go.Proofs.YtcbjfgjlhjjpiaaDoor
