import Derived.Test.YtbcolcchchgldaaOA
import Derived.Test.YtbcolcchchgldaaBB
namespace Go.Proofs.Ytbcolcchchgldaa
set_option linter.unusedVariables false
set_option linter.unusedSimpArgs false
open Go.RowKit

/-! Rows that fit a circuit. -/

set_option maxHeartbeats 1600000 in
theorem rowsFit_any (b : Nat) (sn sg so s : Option Addr) (cn cg co cap ni : Nat) (c : Cir) (rows : List (List Bool)) (w : World) (hb : w.heap[b]? = some (.cells #[.int .i64 ni, .slice sn c.next.length cn, .slice sg c.gates.length cg, .slice so c.outs.length co] 26 (0, 0))) (hC : CirV w (.agg #[.int .i64 ni, .slice sn c.next.length cn, .slice sg c.gates.length cg, .slice so c.outs.length co]) c) (hs : SlB w s rows) (hv : c.validB = true) (n4 : ni ≤ 4) (hl : rows.length ≤ 40) (hr : ∀ r ∈ rows, r.length = ni) :
    Calls Try.prog 80 #[.pointer (some ⟨b, 0, none⟩), .slice s rows.length cap] w fun e w' => e = .returned (.bool true) ∧ Below w.heap.size w w' := by
  have HB : Hid (∀ W, Below w.heap.size w W → (∀ o, W.cell? ⟨b, o, none⟩ = #[Value.int .i64 ni, .slice sn c.next.length cn, .slice sg c.gates.length cg, .slice so c.outs.length co][o]?) ∧ CirV W (.agg #[.int .i64 ni, .slice sn c.next.length cn, .slice sg c.gates.length cg, .slice so c.outs.length co]) c ∧ SlB W s rows) := fun W hW =>
    ⟨(blk_all (blk_below hW (blk_lt hb) hb)).1, hC.mono hW, hs.mono hW⟩
  have HV := Lib.hid (And.intro hv hr)
  clear hb hC hs hv hr
  have cb := (HB.out w (Below.refl _ _)).1
  have hlt40 : ¬ (40 : Int) < (rows.length : Int) := by omega
  go_enter Try.func80, Try.ntmps80
  go_wp2_with (go_at_call 18; ((with_reducible refine (CircuitValid_i _ c _ (HB.out _ (Below.refl _ _)).2.1).mono ?_); rintro e w1 ⟨rfl, hq⟩; rw [HV.out.1]; have H1 := Lib.hid hq; clear hq cb))
  go_loopw [19] (fun i wr => ∃ k : Nat, k ≤ rows.length ∧ i = .int .i64 k ∧ Below w.heap.size w wr) (fun i _ => rows.length - (intOf i).toNat)
  case atStart => exact ⟨0, Nat.zero_le _, rfl, H1.out⟩
  case round =>
    obtain ⟨k, hk, rfl, hbl⟩ := hrel
    have cb := (HB.out _ hbl).1
    by_cases hlt : k < rows.length
    · obtain ⟨r, hr⟩ := get_of_lt hlt
      have hrl : r.length = ni := HV.out.2 r (List.mem_of_getElem? hr)
      obtain ⟨rb, ro, rs, rc, rfl, -, zr, -⟩ := (HB.out _ hbl).2.2.row (Below.refl _ _) hr
      rw [hrl] at zr
      have HR := Lib.hid hbl
      clear hbl hr hrl
      go_wp2_with fail
      clear cb
      go_roundw
      case rel => exact ⟨k + 1, by omega, by go_num, HR.out⟩
      case measure => simp [intOf]; omega
    · obtain rfl : k = rows.length := by omega
      have HR := Lib.hid hbl
      clear hbl
      go_wp2_with fail
      go_ret
      exact ⟨rfl, HR.out⟩

end Go.Proofs.Ytbcolcchchgldaa
