/- HeadWords: its argument opened. -/
import Derived.Test.YtcljgphipdbckaaM07
import Derived.Test.YtcljgphipdbckaaL07c
namespace Go.Proofs.Ytcljgphipdbckaa
open Go.RowKit in
theorem headWords_args (v0 : Value) (w x : Int) (W : World) (h0 : ∃ x : Hd, v0 = .agg x.cells) (hw : U64 w) :
    Calls Try.prog 9 #[v0, .int .u64 w, .int .i64 x] W fun e w' => e = .returned (.bool true) ∧ Below W.heap.size W w' := by
  obtain ⟨a, rfl⟩ := h0
  exact headWords_walk a w x hw W
end Go.Proofs.Ytcljgphipdbckaa
