import Derived.Test.YtddmgphlhfilnaaCL
import Derived.Test.YtddmgphlhfilnaaCM
import Derived.Test.YtddmgphlhfilnaaZ8
namespace Go.Proofs.Ytddmgphlhfilnaa
set_option linter.unusedVariables false
set_option linter.unusedSimpArgs false
open Go.RowKit

/-! A literal that exists is drawn. -/

/-- What l20Lit leaves when it is asked for a literal below T. -/
def LiPost0 (R : Nat) (s : Option Addr) (c : Nat) (xs : List Int) (p : Nat) (T : Int) (w : World) (e : Ending) (w' : World) : Prop :=
  ∃ (k : Int) (p' : Nat), e = .returned (.int .i64 k) ∧ (0 ≤ k ∧ k < T) ∧ p' ≤ p + 10 ∧ Rd w' R s c xs p' ∧ Upd R w w'

set_option maxHeartbeats 1600000 in
theorem l20Lit0_any (R : Nat) (s : Option Addr) (c : Nat) (xs : List Int) (p : Nat) (inp : Int) (sn sg so : Option Addr) (nn ng no cn cg co : Nat) (w : World) (h : Rd w R s c xs p) (hp : p ≤ 1000000) (hi1 : 0 ≤ inp) (hi2 : inp ≤ 10) (hnn : nn ≤ 8) (hng : ng ≤ 40) :
    Calls Try.prog 77 #[.pointer (some ⟨R, 0, none⟩), .agg #[.int .i64 inp, .slice sn nn cn, .slice sg ng cg, .slice so no co], .int .i64 0] w (LiPost0 R s c xs p (2 * (1 + inp + nn + (ng : Int))) w) := by
  have hR : R < w.heap.size := blk_lt h.blk
  have hk := blk_new w (.cells #[.int .i64 inp, .slice sn nn cn, .slice sg ng cg, .slice so no co] 44)
  have hb := below_alloc w (.cells #[.int .i64 inp, .slice sn nn cn, .slice sg ng cg, .slice so no co] 44)
  have hz : (w.alloc (.cells #[.int .i64 inp, .slice sn nn cn, .slice sg ng cg, .slice so no co] 44)).heap.size = w.heap.size + 1 := by simp
  have HR : Hid (Rd (w.alloc (.cells #[.int .i64 inp, .slice sn nn cn, .slice sg ng cg, .slice so no co] 44)) R s c xs p ∧ Upd R w (w.alloc (.cells #[.int .i64 inp, .slice sn nn cn, .slice sg ng cg, .slice so no co] 44)) ∧ (w.alloc (.cells #[.int .i64 inp, .slice sn nn cn, .slice sg ng cg, .slice so no co] 44)).heap[w.heap.size]? = some (.cells #[.int .i64 inp, .slice sn nn cn, .slice sg ng cg, .slice so no co] 44 (0, 0))) := ⟨h.mono hb, Upd.of_below hb, hk⟩
  clear h hk hb hz
  obtain ⟨T, hT⟩ : ∃ T, T = 2 * (1 + inp + nn + (ng : Int)) := ⟨_, rfl⟩
  have t1 : 2 ≤ T := by omega
  have t2 : T ≤ 120 := by omega
  have ww1 : IntKind.i64.wrap (1 + inp + nn + (ng : Int)) = 1 + inp + nn + ng := IntWalk.i64_in _ ⟨by omega, by omega⟩
  have ww2 : IntKind.i64.wrap (2 * (1 + inp + nn + (ng : Int))) = T := by rw [IntWalk.i64_in _ ⟨by omega, by omega⟩, hT]
  rw [← hT]
  clear hT
  go_enter Try.func77, Try.ntmps77
  go_upto_region 1 with fail
  revert HR
  generalize (w.alloc (.cells #[.int .i64 inp, .slice sn nn cn, .slice sg ng cg, .slice so no co] 44)) = W1
  intro HR
  go_cut [7] from 8 to 14 (fun s7 wx => s7 = .int .i64 T ∧ Rd wx R s c xs p ∧ Upd R w wx ∧ wx.heap[w.heap.size]? = some (.cells #[.int .i64 inp, .slice sn nn cn, .slice sg ng cg, .slice so no co] 44 (0, 0)))
  case first =>
    refine wp_region_T (fun w' => ∀ o, w'.cell? ⟨w.heap.size, o, none⟩ = #[Value.int .i64 inp, .slice sn nn cn, .slice sg ng cg, .slice so no co][o]?) (.q 0 (.q 2 (.q 3 (.q 4 (.e 1 (.q 5 (.q 6 (.q 7 .nil)))))))) (by kernel_rfl) (by kernel_rfl) (by kernel_rfl) (blk_all (blk_below ((Below.refl _ _).drew) (blk_lt HR.out.2.2) HR.out.2.2)).1 ?_
    repeat (first | (refine ordt_s (o := ?_) ?_ ?_ ?_; rotate_left 1; (focus ((simp only [List.getElem?_toArray, List.getElem?_cons_succ, List.getElem?_cons_zero]) <;> rfl)); (focus rfl); simp only [Act.put, List.setIfInBounds_toArray, List.set_cons_zero, List.set_cons_succ]) | (refine ordt_q (o := ?_) (v := ?_) ?_ ?_ ?_ ?_; rotate_left 2; (focus ((simp only [List.getElem?_toArray, List.getElem?_cons_succ, List.getElem?_cons_zero]) <;> rfl)); (focus rfl); (focus (intro w' hS; (try dsimp only at hS); go_split_ands; go_simp; (try (with_reducible rfl)))); simp only [Act.put, List.setIfInBounds_toArray, List.set_cons_zero, List.set_cons_succ]))
    refine ordt_e ?_
    (refine op_e (o := ?_) ?_ ?_ (fun K hK => ?_); rotate_left 1; (focus ((simp only [List.getElem?_toArray, List.getElem?_cons_succ, List.getElem?_cons_zero]) <;> rfl)); (focus rfl); go_simp)
    refine (l1First_any _ _ _ _ _ _ _ (by omega) (by omega)).mono ?_
    rintro e wa ⟨rfl, hq⟩
    have hqa : Below W1.heap.size W1 wa := (Below.refl _ _).drew.trans hq
    have hka := blk_below hqa (blk_lt HR.out.2.2) HR.out.2.2
    refine hK.out _ _ (blk_all hka).1 ?_
    clear hK K hq
    have HA : Hid (Rd wa R s c xs p ∧ Upd R w wa ∧ wa.heap[w.heap.size]? = some (.cells #[.int .i64 inp, .slice sn nn cn, .slice sg ng cg, .slice so no co] 44 (0, 0))) := ⟨HR.out.1.mono hqa, HR.out.2.1.trans (Upd.of_below hqa), hka⟩
    clear hqa hka
    (try simp only [Act.put, List.setIfInBounds_toArray, List.set_cons_zero, List.set_cons_succ])
    repeat (first | (refine ordt_s (o := ?_) ?_ ?_ ?_; rotate_left 1; (focus ((simp only [List.getElem?_toArray, List.getElem?_cons_succ, List.getElem?_cons_zero]) <;> rfl)); (focus rfl); simp only [Act.put, List.setIfInBounds_toArray, List.set_cons_zero, List.set_cons_succ]) | (refine ordt_q (o := ?_) (v := ?_) ?_ ?_ ?_ ?_; rotate_left 2; (focus ((simp only [List.getElem?_toArray, List.getElem?_cons_succ, List.getElem?_cons_zero]) <;> rfl)); (focus rfl); (focus (intro w' hS; (try dsimp only at hS); go_split_ands; go_simp; (try (with_reducible rfl)))); simp only [Act.put, List.setIfInBounds_toArray, List.set_cons_zero, List.set_cons_succ]))
    refine ordt_nil ?_
    go_wp2_with fail
    go_meet
    exact ⟨rfl, HA.out⟩
  case rest =>
    obtain ⟨rfl, h1, h2, h3⟩ := hcut
    clear HR ww1 ww2
    have HR := Lib.hid (And.intro h1 (And.intro h2 h3))
    clear h1 h2 h3
    have cb := (blk_all HR.out.2.2).1
    go_wp2_with (first
      | (go_at_call 86; ((with_reducible refine (odd0_kt _ _).mono ?_); rintro e w3 ⟨rfl, rfl⟩))
      | (go_at_call 58; ((with_reducible refine (pick_any _ _ _ _ _ _ _ HR.out.1 (by omega) (by omega)).mono ?_); rintro e w4 ⟨k, rfl, hk1, hk2, hk3, -⟩; obtain ⟨q, rfl⟩ := Int.eq_ofNat_of_zero_le hk1.1; have hqb : (q : Int) < T := (by have := hk1.2; first | omega | (split at this <;> omega)); have HR := Lib.hid (And.intro hk2 (And.intro (HR.out.2.1.trans hk3) ((hk3.block _ (blk_lt HR.out.2.2) (by simp; omega)).trans HR.out.2.2))); clear hk1 hk2 hk3; (try clear cb); have cb := (blk_all HR.out.2.2).1)))
    all_goals
      go_ret
      exact ⟨_, _, rfl, by omega, by omega, HR.out.1, HR.out.2.1⟩

end Go.Proofs.Ytddmgphlhfilnaa
