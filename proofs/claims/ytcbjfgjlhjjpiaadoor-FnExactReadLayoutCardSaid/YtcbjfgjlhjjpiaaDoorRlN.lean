/- How long a layout is that was read from a text: plain. -/
import Derived.Test.YtcbjfgjlhjjpiaaDoorRlM
namespace Go.Proofs.YtcbjfgjlhjjpiaaDoor
open Go.RowKit

theorem layX_len (s : ByteArray) (hn : s.size ≤ 1048576) : itemsSz (layX s.data.toList) ≤ 1048576 := by
  cases h : layOk s.data.toList
  · rw [(lay_no h).2]; simp [itemsSz]
  · have h2 := h
    unfold layOk at h2
    simp only [Bool.and_eq_true] at h2
    rw [(lay_yes h).2]
    have h3 := lines_size _ h2.1.2
    have h4 := mid_size s.data.toList
    rw [len_bytes] at h4
    omega
end Go.Proofs.YtcbjfgjlhjjpiaaDoor
