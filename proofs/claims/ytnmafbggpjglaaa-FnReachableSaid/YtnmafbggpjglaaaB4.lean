import Derived.Test.YtnmafbggpjglaaaA4
import Derived.Test.YtnmafbggpjglaaaA5
import Derived.Test.YtnmafbggpjglaaaA1
namespace Go.Proofs.Ytnmafbggpjglaaa
set_option linter.unusedVariables false
set_option linter.unusedSimpArgs false
open Go.RowKit

/-! gates and circuits: sizes, copies, comparisons. -/

def Cir.size (c : Cir) : Int := c.next.length + c.gates.length + c.outs.length

theorem mk45 (w : World) (n : Nat) (h : n ≤ 1048576) : (Instr.makeSlice 24 (.int .i64 (n : Int)) (.int .i64 (n : Int))).run Try.prog w = .ok (.slice (some ⟨w.heap.size, 0, none⟩) n n) (w.alloc (.cells (madeCells #[.int .i64 0, .int .i64 0] (n * 2)) 32)) := by
  obtain ⟨i, hi, h1, h2, h3⟩ := info_parts (P := Try.prog) (e := 32) (z := .agg #[.int .i64 0, .int .i64 0]) (size := 2) (bytes := 16) (by kernel_rfl)
  have := run_make (P := Try.prog) w 24 32 i (.agg #[.int .i64 0, .int .i64 0]) (by kernel_rfl) hi h1 .i64 .i64 n n (by omega) (by omega) (by rw [h3]; omega) (by omega)
  rw [this, h2]; simp [Value.cells]

theorem Cir.size_eq (c : Cir) : c.size = c.next.length + c.gates.length + c.outs.length := rfl

theorem Sl.toA {w : World} {b : Nat} {cs : List Value} {t : TypeId} {fz : Nat × Nat} (h : w.heap[b]? = some (.cells cs.toArray t fz)) : Sl w (some ⟨b, 0, none⟩) cs := by
  have := Sl.blk h; simpa using this

end Go.Proofs.Ytnmafbggpjglaaa
