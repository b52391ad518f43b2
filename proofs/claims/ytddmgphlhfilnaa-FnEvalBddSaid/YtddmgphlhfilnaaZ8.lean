import Derived.Test.YtddmgphlhfilnaaY2
import Derived.Test.YtddmgphlhfilnaaL3
import Derived.Test.YtddmgphlhfilnaaA4
namespace Go.Proofs.Ytddmgphlhfilnaa
set_option linter.unusedVariables false
set_option linter.unusedSimpArgs false
open Go.RowKit

/-! A circuit, a gate and a value drawn out of bytes. -/

/-- A circuit, a number and a bool that were drawn. -/
def DrawnCIB (w : World) (e : Ending) (w' : World) : Prop :=
  ∃ (C : Cir) (i : Int) (b : Bool) (vn vg vo : Value), e = .returned (.tuple #[.agg #[.int .i64 C.inp, vn, vg, vo], .int .i64 i, .bool b]) ∧ CirOwn w' w.heap.size C vn vg vo ∧ (-10 ≤ C.inp ∧ C.inp ≤ 10 ∧ C.next.length ≤ 8 ∧ C.gates.length ≤ 40 ∧ C.outs.length ≤ 16) ∧ (-100 ≤ i ∧ i ≤ 100) ∧ Below w.heap.size w w'
/-- A circuit and a number that were drawn. -/
def DrawnCJ (w : World) (e : Ending) (w' : World) : Prop :=
  ∃ (C : Cir) (i : Int) (vn vg vo : Value), e = .returned (.tuple #[.agg #[.int .i64 C.inp, vn, vg, vo], .int .i64 i]) ∧ CirOwn w' w.heap.size C vn vg vo ∧ (-10 ≤ C.inp ∧ C.inp ≤ 10 ∧ C.next.length ≤ 8 ∧ C.gates.length ≤ 40 ∧ C.outs.length ≤ 16) ∧ (-100 ≤ i ∧ i ≤ 100) ∧ Below w.heap.size w w'

/-! A literal of a circuit is drawn. -/

/-- A circuit and a literal that were drawn. -/
def DrawnCK (w : World) (e : Ending) (w' : World) : Prop :=
  ∃ (C : Cir) (i : Int) (vn vg vo : Value), e = .returned (.tuple #[.agg #[.int .i64 C.inp, vn, vg, vo], .int .i64 i]) ∧ CirOwn w' w.heap.size C vn vg vo ∧ (-10 ≤ C.inp ∧ C.inp ≤ 10 ∧ C.next.length ≤ 8 ∧ C.gates.length ≤ 40 ∧ C.outs.length ≤ 16) ∧ (-300 ≤ i ∧ i ≤ 300) ∧ Below w.heap.size w w'
/-- What l20Lit leaves. -/
def LiPost (R : Nat) (s : Option Addr) (c : Nat) (xs : List Int) (p : Nat) (w : World) (e : Ending) (w' : World) : Prop :=
  ∃ (k : Int) (p' : Nat), e = .returned (.int .i64 k) ∧ (-300 ≤ k ∧ k ≤ 300) ∧ p' ≤ p + 10 ∧ Rd w' R s c xs p' ∧ Upd R w w'

set_option maxHeartbeats 1600000 in
theorem l20Lit_any (R : Nat) (s : Option Addr) (c : Nat) (xs : List Int) (p : Nat) (n : Int) (inp : Int) (sn sg so : Option Addr) (nn ng no cn cg co : Nat) (w : World) (h : Rd w R s c xs p) (hp : p ≤ 1000000) (hn : 0 ≤ n) (hn2 : n ≤ 1000) (hi1 : -10 ≤ inp) (hi2 : inp ≤ 10) (hnn : nn ≤ 8) (hng : ng ≤ 40) :
    Calls Try.prog 77 #[.pointer (some ⟨R, 0, none⟩), .agg #[.int .i64 inp, .slice sn nn cn, .slice sg ng cg, .slice so no co], .int .i64 n] w (LiPost R s c xs p w) := by
  have hR : R < w.heap.size := blk_lt h.blk
  have hk := blk_new w (.cells #[.int .i64 inp, .slice sn nn cn, .slice sg ng cg, .slice so no co] 44)
  have hb := below_alloc w (.cells #[.int .i64 inp, .slice sn nn cn, .slice sg ng cg, .slice so no co] 44)
  have hz : (w.alloc (.cells #[.int .i64 inp, .slice sn nn cn, .slice sg ng cg, .slice so no co] 44)).heap.size = w.heap.size + 1 := by simp
  have HR : Hid (Rd (w.alloc (.cells #[.int .i64 inp, .slice sn nn cn, .slice sg ng cg, .slice so no co] 44)) R s c xs p ∧ Upd R w (w.alloc (.cells #[.int .i64 inp, .slice sn nn cn, .slice sg ng cg, .slice so no co] 44)) ∧ (w.alloc (.cells #[.int .i64 inp, .slice sn nn cn, .slice sg ng cg, .slice so no co] 44)).heap[w.heap.size]? = some (.cells #[.int .i64 inp, .slice sn nn cn, .slice sg ng cg, .slice so no co] 44 (0, 0))) := ⟨h.mono hb, Upd.of_below hb, hk⟩
  clear h hk hb hz
  obtain ⟨T, hT⟩ : ∃ T, T = 2 * (1 + inp + nn + (ng : Int)) := ⟨_, rfl⟩
  have t1 : -20 ≤ T := by omega
  have t2 : T ≤ 120 := by omega
  have ww1 : IntKind.i64.wrap (1 + inp + nn + (ng : Int)) = 1 + inp + nn + ng := IntWalk.i64_in _ ⟨by omega, by omega⟩
  have ww2 : IntKind.i64.wrap (2 * (1 + inp + nn + (ng : Int))) = T := by rw [IntWalk.i64_in _ ⟨by omega, by omega⟩, hT]
  clear hT
  go_enter Try.func77, Try.ntmps77
  go_upto_region 1 with fail
  revert HR
  generalize (w.alloc (.cells #[.int .i64 inp, .slice sn nn cn, .slice sg ng cg, .slice so no co] 44)) = W1
  intro HR
  go_cut [7] from 8 to 14 (fun s7 wx => s7 = .int .i64 T ∧ Rd wx R s c xs p ∧ Upd R w wx ∧ wx.heap[w.heap.size]? = some (.cells #[.int .i64 inp, .slice sn nn cn, .slice sg ng cg, .slice so no co] 44 (0, 0)))
  case first =>
    refine wp_region_T (fun w' => ∀ o, w'.cell? ⟨w.heap.size, o, none⟩ = #[Value.int .i64 inp, .slice sn nn cn, .slice sg ng cg, .slice so no co][o]?) (.q 0 (.q 2 (.q 3 (.q 4 (.e 1 (.q 5 (.q 6 (.q 7 .nil)))))))) (by kernel_rfl) (by kernel_rfl) (by kernel_rfl) (blk_all (blk_below ((Below.refl _ _).drew) (blk_lt HR.out.2.2) HR.out.2.2)).1 ?_
    repeat (first | (refine ordt_s (o := ?_) ?_ ?_ ?_; rotate_left 1; (focus ((simp only [List.getElem?_toArray, List.getElem?_cons_succ, List.getElem?_cons_zero]) <;> rfl)); (focus rfl); simp only [Act.put, List.setIfInBounds_toArray, List.set_cons_zero, List.set_cons_succ]) | (refine ordt_q (o := ?_) (v := ?_) ?_ ?_ ?_ ?_; rotate_left 2; (focus ((simp only [List.getElem?_toArray, List.getElem?_cons_succ, List.getElem?_cons_zero]) <;> rfl)); (focus rfl); (focus (intro w' hS; (try dsimp only at hS); go_split_ands; go_simp; (try (with_reducible rfl)))); simp only [Act.put, List.setIfInBounds_toArray, List.set_cons_zero, List.set_cons_succ]))
    refine ordt_e ?_
    (refine op_e (o := ?_) ?_ ?_ (fun K hK => ?_); rotate_left 1; (focus ((simp only [List.getElem?_toArray, List.getElem?_cons_succ, List.getElem?_cons_zero]) <;> rfl)); (focus rfl); go_simp)
    refine (l1First_any _ _ _ _ _ _ _ (by omega) (by omega)).mono ?_
    rintro e wa ⟨rfl, hq⟩
    have hqa : Below W1.heap.size W1 wa := (Below.refl _ _).drew.trans hq
    have hka := blk_below hqa (blk_lt HR.out.2.2) HR.out.2.2
    refine hK.out _ _ (blk_all hka).1 ?_
    clear hK K hq
    have HA : Hid (Rd wa R s c xs p ∧ Upd R w wa ∧ wa.heap[w.heap.size]? = some (.cells #[.int .i64 inp, .slice sn nn cn, .slice sg ng cg, .slice so no co] 44 (0, 0))) := ⟨HR.out.1.mono hqa, HR.out.2.1.trans (Upd.of_below hqa), hka⟩
    clear hqa hka
    (try simp only [Act.put, List.setIfInBounds_toArray, List.set_cons_zero, List.set_cons_succ])
    repeat (first | (refine ordt_s (o := ?_) ?_ ?_ ?_; rotate_left 1; (focus ((simp only [List.getElem?_toArray, List.getElem?_cons_succ, List.getElem?_cons_zero]) <;> rfl)); (focus rfl); simp only [Act.put, List.setIfInBounds_toArray, List.set_cons_zero, List.set_cons_succ]) | (refine ordt_q (o := ?_) (v := ?_) ?_ ?_ ?_ ?_; rotate_left 2; (focus ((simp only [List.getElem?_toArray, List.getElem?_cons_succ, List.getElem?_cons_zero]) <;> rfl)); (focus rfl); (focus (intro w' hS; (try dsimp only at hS); go_split_ands; go_simp; (try (with_reducible rfl)))); simp only [Act.put, List.setIfInBounds_toArray, List.set_cons_zero, List.set_cons_succ]))
    refine ordt_nil ?_
    go_wp2_with fail
    go_meet
    exact ⟨rfl, HA.out⟩
  case rest =>
    obtain ⟨rfl, h1, h2, h3⟩ := hcut
    clear HR ww1 ww2
    have HR := Lib.hid (And.intro h1 (And.intro h2 h3))
    clear h1 h2 h3
    have cb := (blk_all HR.out.2.2).1
    go_wp2_with (first
      | (go_at_call 86; ((with_reducible refine (odd_any _ _ _ _ _ _ _ HR.out.1 (by omega) (by omega) (by omega)).mono ?_); rintro e w3 ⟨bb, p3, rfl, hp3, hk2, hk3, -⟩; have HR := Lib.hid (And.intro hk2 (And.intro (HR.out.2.1.trans hk3) ((hk3.block _ (blk_lt HR.out.2.2) (by simp; omega)).trans HR.out.2.2))); clear hk2 hk3; (try clear cb); have cb := (blk_all HR.out.2.2).1; cases bb))
      | (go_at_call 58; ((with_reducible refine (pick_any _ _ _ _ _ _ _ HR.out.1 (by omega) (by omega)).mono ?_); rintro e w4 ⟨k, rfl, hk1, hk2, hk3, -⟩; obtain ⟨q, rfl⟩ := Int.eq_ofNat_of_zero_le hk1.1; have hqb : (q : Int) ≤ 120 := (by have := hk1.2; omega); have HR := Lib.hid (And.intro hk2 (And.intro (HR.out.2.1.trans hk3) ((hk3.block _ (blk_lt HR.out.2.2) (by simp; omega)).trans HR.out.2.2))); clear hk1 hk2 hk3; (try clear cb); have cb := (blk_all HR.out.2.2).1))
      | (go_at_call 58; ((with_reducible refine (pick_any _ _ _ _ _ _ _ (HR.out.1.mono (below_alloc _ _)) (by omega) (by omega)).mono ?_); rintro e w4 ⟨k, rfl, hk1, hk2, hk3, -⟩; obtain ⟨q, rfl⟩ := Int.eq_ofNat_of_zero_le hk1.1; have hqb : (q : Int) < 2 := (by have := hk1.2; omega); obtain ⟨Z, hZ1, hZ2⟩ : ∃ Z : Int, (-20 ≤ Z ∧ Z ≤ 120) ∧ w4.cell? ⟨w3.heap.size, q, none⟩ = some (.int .i64 Z) := (by have hlt3 := blk_lt HR.out.1.blk; have hblk := (hk3.block w3.heap.size (by simp) (by simp; omega)).trans (blk_new w3 _); rcases (show q = 0 ∨ q = 1 by omega) with rfl | rfl <;> exact ⟨_, by omega, blk_cell hblk⟩); have HZ := Lib.hid (And.intro hk2 (HR.out.2.1.trans ((Upd.of_below (below_alloc _ _)).trans hk3))); clear hk1 hk2 hk3 cb)))
    all_goals
      go_ret
      first
        | exact ⟨_, _, rfl, by omega, by omega, HZ.out.1, HZ.out.2⟩
        | exact ⟨_, _, rfl, by omega, by omega, HR.out.1, HR.out.2.1⟩

set_option maxRecDepth 100000 in
set_option maxHeartbeats 1600000 in
theorem DrawBuildBdd_any (s : Option Addr) (cap : Nat) (xs : List Int) (w : World) (hs : Sl w s (u8s xs)) (hl : xs.length ≤ 1048576) (hcap : xs.length ≤ cap) (hcap2 : cap ≤ 9223372036854775807) (hr : ∀ x ∈ xs, 0 ≤ x ∧ x ≤ 255) :
    Calls Try.prog 34 #[.slice s xs.length cap] w (DrawnCK w) := by
  obtain ⟨W0, hW0⟩ : ∃ W0, W0 = w.alloc (.cells #[.int .i64 0, .slice none 0 0, .slice none 0 0, .slice none 0 0] 44) := ⟨_, rfl⟩
  have hz : W0.heap.size = w.heap.size + 1 := by rw [hW0]; simp
  have hb0 : Below w.heap.size w W0 := by rw [hW0]; exact below_alloc _ _
  have hk0 : W0.heap[w.heap.size]? = some (.cells #[.int .i64 0, .slice none 0 0, .slice none 0 0, .slice none 0 0] 44 (0, 0)) := by rw [hW0]; exact blk_new _ _
  have HH := Lib.hid (l20Open_any s cap xs W0 (hs.mono hb0) hl hcap hcap2 hr)
  have HW := Lib.hid (And.intro hW0 (And.intro hz (And.intro hb0 hk0)))
  clear hs hr hW0 hz hb0 hk0
  go_enter Try.func34, Try.ntmps34
  go_upto_region 1 with fail
  rw [← HW.out.1]
  go_upto_region 3 with (first
    | (go_at_call 56; (with_reducible refine HH.out.mono ?_); rintro e w1 ⟨c, rfl, h1, h2, h3⟩; have H1 := Lib.hid (And.intro h1 (And.intro h2 h3)); clear h1 h2 h3)
    | (go_at_call 76; (with_reducible refine (l20Circuit_any _ _ _ _ _ _ _ H1.out.1 (by omega) (by omega) (by omega)).mono ?_); rintro e w2 ⟨C, vn, vg, vo, p', rfl, h1, h2, h3, h4, h5⟩; obtain ⟨sn, cn, rfl⟩ := own_shape h1.n; obtain ⟨sg, cg, rfl⟩ := own_shape h1.g; obtain ⟨so, co, rfl⟩ := own_shape h1.o; have HI := Lib.hid (And.intro h1 (And.intro h3 h5)); obtain ⟨l1, l2, l3, l4, l5⟩ := h2; have hp' : p' ≤ 1000 := (by omega); clear h1 h3 h4 h5))
  obtain ⟨B, hB⟩ : ∃ B, B = w2.heap.size := ⟨_, rfl⟩
  have hk0 : KT W0.heap.size s c (xs.take 2000) w1 B C.inp C.next C.gates C.outs (.slice sn C.next.length cn) (.slice sg C.gates.length cg) (.slice so C.outs.length co) p' (w2.alloc (.cells #[.int .i64 C.inp, .slice sn C.next.length cn, .slice sg C.gates.length cg, .slice so C.outs.length co] 44)) :=
    ⟨⟨by rw [hB]; exact blk_new _ _, own_below HI.out.1.n (below_alloc _ _), own_below HI.out.1.g (below_alloc _ _), own_below HI.out.1.o (below_alloc _ _), HI.out.1.ne⟩, HI.out.2.1.mono (below_alloc _ _), HI.out.2.2.alloc (Nat.le_refl _) _, by have := H1.out.2.2; omega, by rw [hB]; exact HI.out.2.2.size⟩
  have HK := Lib.hid hk0
  clear hk0 HI HH
  rw [← hB]
  revert HK
  generalize w2.alloc (.cells #[.int .i64 C.inp, .slice sn C.next.length cn, .slice sg C.gates.length cg, .slice so C.outs.length co] 44) = W1
  intro HK
  clear hB
  have HRS : Hid (∀ W p, KT W0.heap.size s c (xs.take 2000) w1 B C.inp C.next C.gates C.outs (.slice sn C.next.length cn) (.slice sg C.gates.length cg) (.slice so C.outs.length co) p W → W.heap[w.heap.size]? = some (.cells #[.int .i64 0, .slice none 0 0, .slice none 0 0, .slice none 0 0] 44 (0, 0)) ∧ Below w.heap.size w W ∧ w.heap.size + 2 ≤ w1.heap.size) := fun W p hk => by
    have e1 := HW.out.2.1; have e2 := H1.out.2.2
    exact ⟨by rw [hk.kp.block _ (by omega) (by omega)]; exact blk_below H1.out.2.1 (by omega) HW.out.2.2.2, (HW.out.2.2.1.trans (H1.out.2.1.mono (by omega))).trans (hk.kp.below (by omega) (by omega)), by omega⟩
  refine wp_region_T (fun w' => ∀ o, w'.cell? ⟨B, o, none⟩ = #[Value.int .i64 C.inp, .slice sn C.next.length cn, .slice sg C.gates.length cg, .slice so C.outs.length co][o]?) (.q 0 (.q 1 (.q 2 (.e 3 (.e 4 (.q 5 .nil)))))) (by kernel_rfl) (by kernel_rfl) (by kernel_rfl) HK.out.drew.cells.1 ?_
  repeat (first | (refine ordt_s (o := ?_) ?_ ?_ ?_; rotate_left 1; (focus ((simp only [List.getElem?_toArray, List.getElem?_cons_succ, List.getElem?_cons_zero]) <;> rfl)); (focus rfl); simp only [Act.put, List.setIfInBounds_toArray, List.set_cons_zero, List.set_cons_succ]) | (refine ordt_q (o := ?_) (v := ?_) ?_ ?_ ?_ ?_; rotate_left 2; (focus ((simp only [List.getElem?_toArray, List.getElem?_cons_succ, List.getElem?_cons_zero]) <;> rfl)); (focus rfl); (focus (intro w' hS; (try dsimp only at hS); go_split_ands; go_simp; (try (with_reducible rfl)))); simp only [Act.put, List.setIfInBounds_toArray, List.set_cons_zero, List.set_cons_succ]))
  refine ordt_e ?_
  (refine op_e (o := ?_) ?_ ?_ (fun K hK => ?_); rotate_left 1; (focus ((simp only [List.getElem?_toArray, List.getElem?_cons_succ, List.getElem?_cons_zero]) <;> rfl)); (focus rfl); go_simp)
  refine (l20Lit_any _ _ _ _ _ _ _ _ _ _ _ _ _ _ _ _ _ HK.out.drew.rd (by omega) (by omega) (by omega) (by omega) (by omega) (by omega) (by omega)).mono ?_
  rintro e wd ⟨li, p2, rfl, hli, hp2, hrd, hup⟩
  have hk2 := HK.out.drew.upd hrd hup
  refine hK.out _ _ hk2.cells.1 ?_
  clear hK K hrd hup
  have HKd := Lib.hid hk2
  clear hk2
  (try simp only [Act.put, List.setIfInBounds_toArray, List.set_cons_zero, List.set_cons_succ])
  obtain ⟨h0, hbl, h2s⟩ := HRS.out _ _ HKd.out
  obtain ⟨rc, rf⟩ := blk_all h0
  refine ordt_e ?_
  (refine op_e (o := ?_) ?_ ?_ (fun K hK => ?_); rotate_left 1; (focus ((simp only [List.getElem?_toArray, List.getElem?_cons_succ, List.getElem?_cons_zero]) <;> rfl)); (focus rfl); go_simp)
  have hB0 : B < wd.heap.size := blk_lt HKd.out.out.blk
  have hBw : w.heap.size < B := by have := HKd.out.hB; omega
  have hU : Upd w.heap.size wd ((((wd.setCell ⟨w.heap.size, 0, none⟩ (.int .i64 C.inp)).setCell ⟨w.heap.size, 1, none⟩ (.slice sn C.next.length cn)).setCell ⟨w.heap.size, 2, none⟩ (.slice sg C.gates.length cg)).setCell ⟨w.heap.size, 3, none⟩ (.slice so C.outs.length co)) := (((Upd.set _ _ _ _).trans (Upd.set _ _ _ _)).trans (Upd.set _ _ _ _)).trans (Upd.set _ _ _ _)
  have hZB : ((((wd.setCell ⟨w.heap.size, 0, none⟩ (.int .i64 C.inp)).setCell ⟨w.heap.size, 1, none⟩ (.slice sn C.next.length cn)).setCell ⟨w.heap.size, 2, none⟩ (.slice sg C.gates.length cg)).setCell ⟨w.heap.size, 3, none⟩ (.slice so C.outs.length co)).heap[B]? = some (.cells #[.int .i64 C.inp, .slice sn C.next.length cn, .slice sg C.gates.length cg, .slice so C.outs.length co] 44 (0, 0)) := by
    rw [hU.block B hB0 (by simp; omega)]; exact HKd.out.out.blk
  refine hK.out _ _ (blk_all hZB).1 ?_
  clear hK K hZB hU
  (try simp only [Act.put, List.setIfInBounds_toArray, List.set_cons_zero, List.set_cons_succ])
  repeat (first | (refine ordt_s (o := ?_) ?_ ?_ ?_; rotate_left 1; (focus ((simp only [List.getElem?_toArray, List.getElem?_cons_succ, List.getElem?_cons_zero]) <;> rfl)); (focus rfl); simp only [Act.put, List.setIfInBounds_toArray, List.set_cons_zero, List.set_cons_succ]) | (refine ordt_q (o := ?_) (v := ?_) ?_ ?_ ?_ ?_; rotate_left 2; (focus ((simp only [List.getElem?_toArray, List.getElem?_cons_succ, List.getElem?_cons_zero]) <;> rfl)); (focus rfl); (focus (intro w' hS; (try dsimp only at hS); go_split_ands; go_simp; (try (with_reducible rfl)))); simp only [Act.put, List.setIfInBounds_toArray, List.set_cons_zero, List.set_cons_succ]))
  refine ordt_nil ?_
  go_wp2_with fail
  have hown : CirOwn wd w1.heap.size C (.slice sn C.next.length cn) (.slice sg C.gates.length cg) (.slice so C.outs.length co) := ⟨HKd.out.out.n, HKd.out.out.g, HKd.out.out.o, HKd.out.out.ne, by omega, by omega, by omega⟩
  have hZ : ((((wd.setCell ⟨w.heap.size, 0, none⟩ (.int .i64 C.inp)).setCell ⟨w.heap.size, 1, none⟩ (.slice sn C.next.length cn)).setCell ⟨w.heap.size, 2, none⟩ (.slice sg C.gates.length cg)).setCell ⟨w.heap.size, 3, none⟩ (.slice so C.outs.length co)).heap[w.heap.size]? = some (.cells #[.int .i64 C.inp, .slice sn C.next.length cn, .slice sg C.gates.length cg, .slice so C.outs.length co] 44 (0, 0)) := by
    simpa using blk_set (o := 3) (v := .slice so C.outs.length co) (blk_set (o := 2) (v := .slice sg C.gates.length cg) (blk_set (o := 1) (v := .slice sn C.next.length cn) (blk_set (o := 0) (v := .int .i64 C.inp) h0)))
  have hR := (hown).sets4 (r := w.heap.size) (by omega) (base := w.heap.size) (by omega) (a := .int .i64 C.inp) (b' := .slice sn C.next.length cn) (c' := .slice sg C.gates.length cg) (d := .slice so C.outs.length co)
  have hB := ((((hbl).setCell (p := ⟨w.heap.size, 0, none⟩) (by simp) (.int .i64 C.inp)).setCell (p := ⟨w.heap.size, 1, none⟩) (by simp) (.slice sn C.next.length cn)).setCell (p := ⟨w.heap.size, 2, none⟩) (by simp) (.slice sg C.gates.length cg)).setCell (p := ⟨w.heap.size, 3, none⟩) (by simp) (.slice so C.outs.length co)
  clear rc rf
  revert hZ hR hB
  generalize ((((wd.setCell ⟨w.heap.size, 0, none⟩ (.int .i64 C.inp)).setCell ⟨w.heap.size, 1, none⟩ (.slice sn C.next.length cn)).setCell ⟨w.heap.size, 2, none⟩ (.slice sg C.gates.length cg)).setCell ⟨w.heap.size, 3, none⟩ (.slice so C.outs.length co)) = WZ
  intro hZ hR hB
  have cr := (blk_all hZ).1
  exact bodyPost_ret (v := .tuple #[.agg #[.int .i64 C.inp, .slice sn C.next.length cn, .slice sg C.gates.length cg, .slice so C.outs.length co], .int .i64 li]) (by simp [results, Try.results34, go_sem, cr]) rfl ⟨C, li, _, _, _, rfl, hR, ⟨by omega, by omega, by omega, by omega, by omega⟩, hli, hB⟩

end Go.Proofs.Ytddmgphlhfilnaa
