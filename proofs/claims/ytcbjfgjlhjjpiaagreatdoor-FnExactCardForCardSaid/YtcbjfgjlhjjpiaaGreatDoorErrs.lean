/- The two sentinels of strconv out of a row's condition. -/
import Derived.Test.YtcbjfgjlhjjpiaaGreatDoorReadD
import Derived.LaidLaws
namespace Go.Proofs.YtcbjfgjlhjjpiaaGreatDoor
open Go.RowKit
set_option linter.unusedVariables false

theorem err_of {W : World} {l : List (String × DataW Unit)} {n nm : String} {d : DataW Unit} {g : Nat} {ti : TypeId} {ms : Array (String × TypeId)} (hL : laidMet Tryz.prog l W) (hm : (n, .iface nm d) ∈ l)
    (hg : Tryz.prog.globalNamed n = some g) (hty : (Tryz.prog.globals[g]?).map (·.type) = some ti) (hi : Tryz.prog.underlying ti = some (.interface ms)) : ∃ t p, W.var? Tryz.prog n = some #[.iface t p] := by
  obtain ⟨g', t', cs, fuel, p, hg', ht', hvar, hd⟩ := Lib.laidMet.reads hL hm
  obtain rfl := Option.some.inj (hg.symm.trans hg')
  obtain rfl := Option.some.inj (hty.symm.trans ht')
  obtain ⟨f1, u, v, he, _⟩ := iface_of_trod hi hd
  refine ⟨u, v, ?_⟩
  rw [hvar]
  obtain ⟨cl⟩ := cs
  simp only at he
  rw [he]
theorem errs_of {W : World} {l : List (String × DataW Unit)} (hL : laidMet Tryz.prog l W) (hs : ("strconv.ErrSyntax", (Rows.laid_strconv_ErrSyntax : DataW Unit)) ∈ l) (hr : ("strconv.ErrRange", (Rows.laid_strconv_ErrRange : DataW Unit)) ∈ l) : Errs W :=
  ⟨err_of (g := 3) hL hs (by kernel_rfl) (by kernel_rfl) Tryz.underlying186, err_of (g := 4) hL hr (by kernel_rfl) (by kernel_rfl) Tryz.underlying186⟩
end Go.Proofs.YtcbjfgjlhjjpiaaGreatDoor
