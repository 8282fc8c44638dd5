/- The two sentinels of strconv out of a row's condition. -/
import Derived.Test.YtcbjfgjlhjjpiaaDoorReadD
import Derived.LaidLaws
namespace Go.Proofs.YtcbjfgjlhjjpiaaDoor
open Go.RowKit
set_option linter.unusedVariables false

theorem err_of {W : World} {l : List (String × DataW Unit)} {n nm : String} {d : DataW Unit} {g : Nat} {ti : TypeId} {ms : Array (String × TypeId)} (hL : laidMet Tryd.prog l W) (hm : (n, .iface nm d) ∈ l)
    (hg : Tryd.prog.globalNamed n = some g) (hty : (Tryd.prog.globals[g]?).map (·.type) = some ti) (hi : Tryd.prog.underlying ti = some (.interface ms)) : ∃ t p, W.var? Tryd.prog n = some #[.iface t p] := by
  obtain ⟨g', t', cs, fuel, p, hg', ht', hvar, hd⟩ := Lib.laidMet.reads hL hm
  obtain rfl := Option.some.inj (hg.symm.trans hg')
  obtain rfl := Option.some.inj (hty.symm.trans ht')
  obtain ⟨f1, u, v, he, _⟩ := iface_of_trod hi hd
  refine ⟨u, v, ?_⟩
  rw [hvar]
  obtain ⟨cl⟩ := cs
  simp only at he
  rw [he]
theorem errs_of {W : World} {l : List (String × DataW Unit)} (hL : laidMet Tryd.prog l W) (hs : ("strconv.ErrSyntax", (Rows.laid_strconv_ErrSyntax : DataW Unit)) ∈ l) (hr : ("strconv.ErrRange", (Rows.laid_strconv_ErrRange : DataW Unit)) ∈ l) : Errs W :=
  ⟨err_of (g := 1) hL hs (by kernel_rfl) (by kernel_rfl) Tryd.underlying81, err_of (g := 2) hL hr (by kernel_rfl) (by kernel_rfl) Tryd.underlying81⟩
end Go.Proofs.YtcbjfgjlhjjpiaaDoor
