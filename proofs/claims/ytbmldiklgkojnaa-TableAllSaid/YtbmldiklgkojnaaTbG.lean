/- A cell of the library's own: what the world's shape says of it. -/
import Derived.Test.YtbmldiklgkojnaaTbF
import Derived.Test.YtbmldiklgkojnaaFrame
import Derived.HandedShaped
import Derived.Shelf.Vars
namespace Go.Proofs.Ytbmldiklgkojnaa
open Go.RowKit

theorem maxLen_cell (W : World) (h : W.ShapedOpen Try.prog) : ∃ m, W.cell? ⟨0, 0, none⟩ = some (.int .i64 m) :=
  cell_of_shapedOpen_int (P := Try.prog) (g := 0) (t := 3) (zero := #[.int .i64 0]) h (of_decide_eq_true (by kernel_rfl)) (by kernel_rfl) rfl (by kernel_rfl) (by kernel_rfl) Try.underlying3
end Go.Proofs.Ytbmldiklgkojnaa
