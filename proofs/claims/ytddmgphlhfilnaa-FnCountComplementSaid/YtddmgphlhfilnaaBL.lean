import Derived.Test.YtddmgphlhfilnaaBH
import Derived.Test.YtddmgphlhfilnaaBJ
import Derived.Test.YtddmgphlhfilnaaCC
import Derived.Test.YtddmgphlhfilnaaZ8
namespace Go.Proofs.Ytddmgphlhfilnaa
set_option linter.unusedVariables false
set_option linter.unusedSimpArgs false
open Go.RowKit

/-! A literal and its complement. -/

def cmL (l : Int) : Int := if l % 2 = 1 then l - 1 else l + 1
theorem xor1_cmL {l : Int} (h0 : 0 ≤ l) (h1 : l < 512) : bits .xor .i64 l 1 = cmL l := by
  obtain ⟨q, rfl⟩ := Int.eq_ofNat_of_zero_le h0
  have h : ∀ q : Fin 512, q.val ^^^ 1 = if q.val % 2 = 1 then q.val - 1 else q.val + 1 := by decide +kernel
  have hq := h ⟨q, by omega⟩
  have hx := xor_i64 q 1 (by omega) (by omega)
  rw [show ((1 : Nat) : Int) = 1 from rfl] at hx
  rw [hx, hq]
  unfold cmL
  dsimp only
  split <;> split <;> omega
theorem litB_cm (vs : List Bool) {l : Int} (h0 : 0 ≤ l) : litB vs (cmL l) = !litB vs l := by
  unfold litB cmL
  by_cases h : l % 2 = 1
  · rw [if_pos h, show (l - 1) / 2 = l / 2 by omega, decide_eq_true h, decide_eq_false (show ¬ (l - 1) % 2 = 1 by omega)]
    cases vs.getD (l / 2).toNat false <;> rfl
  · rw [if_neg h, show (l + 1) / 2 = l / 2 by omega, decide_eq_false h, decide_eq_true (show (l + 1) % 2 = 1 by omega)]
    cases vs.getD (l / 2).toNat false <;> rfl
theorem litF_cm (c : Cir) {l : Int} (h0 : 0 ≤ l) : litF c (cmL l) = fun y => !litF c l y := funext fun _ => litB_cm _ h0
theorem tsOk_cm {c : Cir} {l : Int} (h : tsOk c l) : tsOk c (cmL l) := by
  obtain ⟨h1, h2⟩ := h
  refine ⟨h1, ?_⟩
  unfold litP at h2 ⊢
  unfold cmL
  split <;> omega
theorem bdR_cm {c : Cir} {l : Int} (h : tsOk c l) : bdR c (cmL l) = bdK (fun y => !litF c l y) (c.inp.toNat + c.next.length) := by
  rw [bdR_yes (tsOk_cm h), litF_cm c (by have := h.2; unfold litP at this; omega)]

set_option maxRecDepth 100000 in
set_option maxHeartbeats 3200000 in
theorem FnBddComplement_any (s : Option Addr) (cap : Nat) (xs : List Int) (w : World) (hs : Sl w s (u8s xs)) (hl : xs.length ≤ 9223372036854775807) (hcap : xs.length ≤ cap) (hcap2 : cap ≤ 9223372036854775807) (hr : ∀ x ∈ xs, 0 ≤ x ∧ x ≤ 255) :
    Calls Try.prog 9 #[.slice s xs.length cap] w fun e w' => e = .returned (.bool true) ∧ Below w.heap.size w w' := by
  by_cases hc : xs.length ≤ 1048576
  · have HD := Lib.hid (DrawBuildBdd_any s cap xs w hs hc hcap hcap2 hr)
    clear hs hr
    go_enter Try.func9, Try.ntmps9
    go_upto_region 4 with (go_at_call 34; (with_reducible refine HD.out.mono ?_); rintro e w1 ⟨C, i, vn, vg, vo, rfl, h1, h2, h3, h4⟩; obtain ⟨sn, cn, rfl⟩ := own_shape h1.n; obtain ⟨sg, cg, rfl⟩ := own_shape h1.g; obtain ⟨so, co, rfl⟩ := own_shape h1.o; have H1 := Lib.hid (And.intro h1 h4); obtain ⟨l1, l2, l3, l4, l5⟩ := h2; obtain ⟨i1, i2⟩ := h3; clear h1 h4)
    obtain ⟨B, hB⟩ : ∃ B, B = w1.heap.size := ⟨_, rfl⟩
    have hk := blk_new w1 (.cells #[.int .i64 C.inp, .slice sn C.next.length cn, .slice sg C.gates.length cg, .slice so C.outs.length co] 44)
    have hbb := below_alloc w1 (.cells #[.int .i64 C.inp, .slice sn C.next.length cn, .slice sg C.gates.length cg, .slice so C.outs.length co] 44)
    have hV : CirV (w1.alloc (.cells #[.int .i64 C.inp, .slice sn C.next.length cn, .slice sg C.gates.length cg, .slice so C.outs.length co] 44)) (.agg #[.int .i64 C.inp, .slice sn C.next.length cn, .slice sg C.gates.length cg, .slice so C.outs.length co]) C :=
      ⟨_, _, _, _, _, _, rfl, own_sl (own_below H1.out.1.n hbb), own_sl (own_below H1.out.1.g hbb), own_sl (own_below H1.out.1.o hbb), by omega, by omega, by omega⟩
    have hgs := own_sl (own_below H1.out.1.g hbb)
    have hbw := H1.out.2.trans (hbb.mono H1.out.2.size)
    rw [← hB] at hk
    rw [← hB]
    clear hbb hB H1
    revert hV hgs hbw hk
    generalize w1.alloc (.cells #[.int .i64 C.inp, .slice sn C.next.length cn, .slice sg C.gates.length cg, .slice so C.outs.length co] 44) = W1
    intro hk hV hgs hbw
    have HC : Hid (∀ W, Below W1.heap.size W1 W → CirV W (.agg #[.int .i64 C.inp, .slice sn C.next.length cn, .slice sg C.gates.length cg, .slice so C.outs.length co]) C ∧ Sl W sg (gcells C.gates) ∧ (∀ o, W.cell? ⟨B, o, none⟩ = #[Value.int .i64 C.inp, .slice sn C.next.length cn, .slice sg C.gates.length cg, .slice so C.outs.length co][o]?) ∧ Below w.heap.size w W) := fun W hW => ⟨hV.mono hW, hgs.mono hW, (blk_all (blk_below hW (blk_lt hk) hk)).1, hbw.trans (hW.mono hbw.size)⟩
    clear hV hgs hbw hk
    have cb := (HC.out _ (Below.refl _ _)).2.2.1
    obtain ⟨d, hd⟩ : ∃ d, d = bdR C i := ⟨_, rfl⟩
    have hdl : d.nodes.length ≤ 200 := by rw [hd]; exact bdR_len C i
    have hdr : 0 ≤ d.root ∧ d.root ≤ 200 := by rw [hd]; exact bdR_root C i
    obtain ⟨hdr1, hdr2⟩ := hdr
    have HDD := Lib.hid hd
    clear hd
    go_upto_region 5 with (go_at_call 28; ((with_reducible refine (BuildBdd_i _ _ _ _ (HC.out _ (Below.refl _ _)).1 ⟨by omega, by omega⟩).mono ?_); rintro e w2 ⟨sb, cb2, rfl, h1, hq⟩; rw [← HDD.out] at h1 ⊢; have H2 := Lib.hid (And.intro h1 hq); clear h1 hq cb))
    obtain ⟨D, hD⟩ : ∃ D, D = w2.heap.size := ⟨_, rfl⟩
    have hk := blk_new w2 (.cells #[.slice sb d.nodes.length cb2, .int .i64 d.root] 25)
    have hbb := below_alloc w2 (.cells #[.slice sb d.nodes.length cb2, .int .i64 d.root] 25)
    have hV := bdV_own (own_below H2.out.1 hbb) (by omega)
    have hbw := H2.out.2.trans (hbb.mono H2.out.2.size)
    have hsb := own_sl (own_below H2.out.1 hbb)
    rw [← hD] at hk
    rw [← hD]
    clear hbb hD H2
    revert hV hbw hk hsb
    generalize w2.alloc (.cells #[.slice sb d.nodes.length cb2, .int .i64 d.root] 25) = W2
    intro hk hV hbw hsb
    have HB : Hid (∀ W, Below W2.heap.size W2 W → (∀ o, W.cell? ⟨B, o, none⟩ = #[Value.int .i64 C.inp, .slice sn C.next.length cn, .slice sg C.gates.length cg, .slice so C.outs.length co][o]?) ∧ (∀ o, W.cell? ⟨D, o, none⟩ = #[Value.slice sb d.nodes.length cb2, .int .i64 d.root][o]?) ∧ BdV W (.agg #[.slice sb d.nodes.length cb2, .int .i64 d.root]) d ∧ Sl W sb (ncells d.nodes) ∧ Below W1.heap.size W1 W) := fun W hW => ⟨(HC.out _ (hbw.trans (hW.mono hbw.size))).2.2.1, (blk_all (blk_below hW (blk_lt hk) hk)).1, hV.mono hW, hsb.mono hW, hbw.trans (hW.mono hbw.size)⟩
    clear hV hbw hk hsb
    by_cases hok : tsOk C i
    · have HT : Hid (decide (tsOk C i) = true) := decide_eq_true hok
      have hvB := hok.1
      have hval := C.validB_iff.1 hvB
      obtain ⟨q1, q2, q3, q4, q5⟩ := id hval.lim
      obtain ⟨n1, n2⟩ := asgN_le2 hval
      obtain ⟨ni, hni⟩ : ∃ ni : Nat, C.inp = ni := ⟨C.inp.toNat, by omega⟩
      obtain ⟨N, hN⟩ : ∃ N, N = asgN C := ⟨_, rfl⟩
      rw [← hN] at n1 n2
      have n4 : ni ≤ 4 := by omega
      have hi0 := hok.2
      have hwp : wrap64 (2 ^ (ni + C.next.length)) = (N : Int) := by rw [wrap_pow (by omega), hN]; unfold asgN; rw [hni]; simp
      have hto : ((ni : Int) + (C.next.length : Int)).toNat = ni + C.next.length := by omega
      have hcm := xor1_cmL (l := i) (by unfold litP at hi0; omega) (by unfold litP at hi0; omega)
      obtain ⟨j, hj⟩ : ∃ j, j = cmL i := ⟨_, rfl⟩
      rw [← hj] at hcm
      have hjb : 0 ≤ j ∧ j ≤ 600 := by rw [hj]; unfold cmL; unfold litP at hi0; split <;> omega
      obtain ⟨j0, j1⟩ := hjb
      obtain ⟨d', hd'⟩ : ∃ d', d' = bdR C j := ⟨_, rfl⟩
      have hdl' : d'.nodes.length ≤ 200 := by rw [hd']; exact bdR_len C j
      have hdr' : 0 ≤ d'.root ∧ d'.root ≤ 200 := by rw [hd']; exact bdR_root C j
      obtain ⟨hdr3, hdr4⟩ := hdr'
      have HJ := Lib.hid (And.intro hj hd')
      clear hj hd'
      have HX := Lib.hid (And.intro hval (And.intro hni (And.intro hN (And.intro hok (And.intro hvB hi0)))))
      rw [hni] at HC HB ⊢
      clear hok hval hni hN hvB hi0 l1 l2 q1 q2
      have hd0 := (Below.refl W2.heap.size W2).drew
      refine wp_region_T (fun w' => (∀ o, w'.cell? ⟨B, o, none⟩ = #[Value.int .i64 ni, .slice sn C.next.length cn, .slice sg C.gates.length cg, .slice so C.outs.length co][o]?) ∧ (∀ o, w'.cell? ⟨D, o, none⟩ = #[Value.slice sb d.nodes.length cb2, .int .i64 d.root][o]?)) (.q 0 (.q 1 (.q 2 (.e 3 (.e 4 (.q 5 .nil)))))) (by kernel_rfl) (by kernel_rfl) (by kernel_rfl) ⟨(HB.out _ hd0).1, (HB.out _ hd0).2.1⟩ ?_
      repeat (first | (refine ordt_s (o := ?_) ?_ ?_ ?_; rotate_left 1; (focus ((simp only [List.getElem?_toArray, List.getElem?_cons_succ, List.getElem?_cons_zero]) <;> rfl)); (focus rfl); simp only [Act.put, List.setIfInBounds_toArray, List.set_cons_zero, List.set_cons_succ]) | (refine ordt_q (o := ?_) (v := ?_) ?_ ?_ ?_ ?_; rotate_left 2; (focus ((simp only [List.getElem?_toArray, List.getElem?_cons_succ, List.getElem?_cons_zero]) <;> rfl)); (focus rfl); (focus (intro w' hS; (try dsimp only at hS); go_split_ands; go_simp; (try (with_reducible rfl)))); simp only [Act.put, List.setIfInBounds_toArray, List.set_cons_zero, List.set_cons_succ]))
      refine ordt_e ?_
      (refine op_e (o := ?_) ?_ ?_ (fun K hK => ?_); rotate_left 1; (focus ((simp only [List.getElem?_toArray, List.getElem?_cons_succ, List.getElem?_cons_zero]) <;> rfl)); (focus rfl); go_simp)
      refine (BuildBdd_s _ _ _ _ (HC.out _ (HB.out _ hd0).2.2.2.2).1 ⟨by omega, by omega⟩).mono ?_
      rintro e w3 ⟨s3, c3, rfl, h3, hq⟩
      rw [← HDD.out] at h3 ⊢
      have hq3 := hd0.trans hq
      refine hK.out _ _ ⟨(HB.out _ hq3).1, (HB.out _ hq3).2.1⟩ ?_
      clear hK K
      have H3 := Lib.hid (And.intro hq3 h3)
      clear hq3 h3 hq hd0
      (try simp only [Act.put, List.setIfInBounds_toArray, List.set_cons_zero, List.set_cons_succ])
      refine ordt_e ?_
      (refine op_e (o := ?_) ?_ ?_ (fun K hK => ?_); rotate_left 1; (focus ((simp only [List.getElem?_toArray, List.getElem?_cons_succ, List.getElem?_cons_zero]) <;> rfl)); (focus rfl); go_simp)
      refine (sameBdd_any sb s3 cb2 c3 d d true _ (HB.out _ H3.out.1).2.2.2.1 H3.out.2 (by omega) (by omega) ⟨by omega, by omega⟩ ⟨by omega, by omega⟩ ⟨fun _ => rfl, fun _ => rfl⟩).mono ?_
      rintro e w4 ⟨rfl, hq⟩
      have hq4 := H3.out.1.trans (hq.mono H3.out.1.size)
      refine hK.out _ _ ⟨(HB.out _ hq4).1, (HB.out _ hq4).2.1⟩ ?_
      clear hK K hq
      have H4 := Lib.hid hq4
      clear hq4 H3
      (try simp only [Act.put, List.setIfInBounds_toArray, List.set_cons_zero, List.set_cons_succ])
      repeat (first | (refine ordt_s (o := ?_) ?_ ?_ ?_; rotate_left 1; (focus ((simp only [List.getElem?_toArray, List.getElem?_cons_succ, List.getElem?_cons_zero]) <;> rfl)); (focus rfl); simp only [Act.put, List.setIfInBounds_toArray, List.set_cons_zero, List.set_cons_succ]) | (refine ordt_q (o := ?_) (v := ?_) ?_ ?_ ?_ ?_; rotate_left 2; (focus ((simp only [List.getElem?_toArray, List.getElem?_cons_succ, List.getElem?_cons_zero]) <;> rfl)); (focus rfl); (focus (intro w' hS; (try dsimp only at hS); go_split_ands; go_simp; (try (with_reducible rfl)))); simp only [Act.put, List.setIfInBounds_toArray, List.set_cons_zero, List.set_cons_succ]))
      refine ordt_nil ?_
      have cB := (HB.out _ H4.out).1
      have cD := (HB.out _ H4.out).2.1
      go_upto_region 10 with (first | (go_at_call 36; ((with_reducible refine (litExists_any _ C _ _ (HC.out _ (HB.out _ H4.out).2.2.2.2).1 ⟨by omega, by omega⟩).mono ?_); rintro e w5 ⟨rfl, hq⟩; rw [HT.out]; have H5 := Lib.hid (H4.out.trans (hq.mono H4.out.size)); clear hq cB cD; have cB := (HB.out _ H5.out).1; have cD := (HB.out _ H5.out).2.1)) | (go_at_call 28; ((with_reducible refine (BuildBdd_i _ C j _ (HC.out _ (HB.out _ H5.out).2.2.2.2).1 ⟨by omega, by omega⟩).mono ?_); rintro e w6 ⟨se, ce, rfl, h1, hq⟩; rw [← HJ.out.2] at h1 ⊢; have H6 := Lib.hid (And.intro h1 (H5.out.trans (hq.mono H5.out.size))); clear h1 hq cB cD)))
      obtain ⟨E, hE⟩ : ∃ E, E = w6.heap.size := ⟨_, rfl⟩
      have hk := blk_new w6 (.cells #[.slice se d'.nodes.length ce, .int .i64 d'.root] 25)
      have hbb := below_alloc w6 (.cells #[.slice se d'.nodes.length ce, .int .i64 d'.root] 25)
      have hV := bdV_own (own_below H6.out.1 hbb) (by omega)
      have hbw := H6.out.2.trans (hbb.mono H6.out.2.size)
      rw [← hE] at hk
      rw [← hE]
      clear hbb hE H6
      revert hV hbw hk
      generalize w6.alloc (.cells #[.slice se d'.nodes.length ce, .int .i64 d'.root] 25) = W3
      intro hk hV hbw
      have HE : Hid (∀ W, Below W3.heap.size W3 W → (∀ o, W.cell? ⟨B, o, none⟩ = #[Value.int .i64 ni, .slice sn C.next.length cn, .slice sg C.gates.length cg, .slice so C.outs.length co][o]?) ∧ (∀ o, W.cell? ⟨D, o, none⟩ = #[Value.slice sb d.nodes.length cb2, .int .i64 d.root][o]?) ∧ (∀ o, W.cell? ⟨E, o, none⟩ = #[Value.slice se d'.nodes.length ce, .int .i64 d'.root][o]?) ∧ BdV W (.agg #[.slice sb d.nodes.length cb2, .int .i64 d.root]) d ∧ BdV W (.agg #[.slice se d'.nodes.length ce, .int .i64 d'.root]) d' ∧ Below w.heap.size w W) := fun W hW => by
        obtain ⟨a1, a2, a3, a4, a5⟩ := HB.out _ (hbw.trans (hW.mono hbw.size))
        exact ⟨a1, a2, (blk_all (blk_below hW (blk_lt hk) hk)).1, a3, hV.mono hW, (HC.out _ a5).2.2.2⟩
      clear hV hbw hk
      have cB := (HE.out _ (Below.refl _ _)).1
      have cD := (HE.out _ (Below.refl _ _)).2.1
      have cE := (HE.out _ (Below.refl _ _)).2.2.1
      go_upto_region 11 with fail
      clear cB cD cE
      go_loopw [7] (fun v6 wr => ∃ k : Nat, k ≤ N ∧ v6 = .int .i64 k ∧ Below W3.heap.size W3 wr) (fun v6 _ => N - (intOf v6).toNat)
      case atStart => exact ⟨0, Nat.zero_le _, rfl, Below.refl _ _⟩
      case round =>
        obtain ⟨k, hk, rfl, hbl⟩ := hrel
        have cB := (HE.out _ hbl).1
        have cD := (HE.out _ hbl).2.1
        have cE := (HE.out _ hbl).2.2.1
        have HR := Lib.hid hbl
        clear hbl
        by_cases hlt : k < N
        · have he : d.evalB k = litF C i k := by rw [HDD.out]; exact bdR_eval HX.out.2.2.2.1 k (by rw [← HX.out.2.2.1]; exact hlt)
          have he' : d'.evalB k = !litF C i k := by
            rw [HJ.out.2, HJ.out.1, bdR_eval (tsOk_cm HX.out.2.2.2.1) k (by rw [← HX.out.2.2.1]; exact hlt), litF_cm C (by have := HX.out.2.2.2.2.2; unfold litP at this; omega)]
          obtain ⟨y, hy⟩ : ∃ y, y = litF C i k := ⟨_, rfl⟩
          rw [← hy] at he he'
          have HY := Lib.hid (And.intro hy (And.intro he he'))
          have k1000 : (k : Int) ≤ 1000 := Int.ofNat_le.2 (show k ≤ 1000 from Nat.le_trans (Nat.le_of_lt hlt) (Nat.le_trans n2 (by decide)))
          clear hy he he'
          go_upto_region 13 with fail
          clear cB cD cE hwp hto
          have hd0 := HR.out.drew
          refine wp_region_T (fun w' => (∀ o, w'.cell? ⟨D, o, none⟩ = #[Value.slice sb d.nodes.length cb2, .int .i64 d.root][o]?) ∧ (∀ o, w'.cell? ⟨E, o, none⟩ = #[Value.slice se d'.nodes.length ce, .int .i64 d'.root][o]?)) (.q 0 (.q 1 (.q 3 (.q 4 (.e 2 (.e 5 (.q 6 .nil))))))) (by kernel_rfl) (by kernel_rfl) (by kernel_rfl) ⟨(HE.out _ hd0).2.1, (HE.out _ hd0).2.2.1⟩ ?_
          repeat (first | (refine ordt_s (o := ?_) ?_ ?_ ?_; rotate_left 1; (focus ((simp only [List.getElem?_toArray, List.getElem?_cons_succ, List.getElem?_cons_zero]) <;> rfl)); (focus rfl); simp only [Act.put, List.setIfInBounds_toArray, List.set_cons_zero, List.set_cons_succ]) | (refine ordt_q (o := ?_) (v := ?_) ?_ ?_ ?_ ?_; rotate_left 2; (focus ((simp only [List.getElem?_toArray, List.getElem?_cons_succ, List.getElem?_cons_zero]) <;> rfl)); (focus rfl); (focus (intro w' hS; (try dsimp only at hS); go_split_ands; go_simp; (try (with_reducible rfl)))); simp only [Act.put, List.setIfInBounds_toArray, List.set_cons_zero, List.set_cons_succ]))
          refine ordt_e ?_
          (refine op_e (o := ?_) ?_ ?_ (fun K hK => ?_); rotate_left 1; (focus ((simp only [List.getElem?_toArray, List.getElem?_cons_succ, List.getElem?_cons_zero]) <;> rfl)); (focus rfl); go_simp)
          refine (EvalBdd_i _ d k _ (HE.out _ hd0).2.2.2.1 ⟨by omega, by omega⟩).mono ?_
          rintro e wa ⟨rfl, hq⟩
          rw [HY.out.2.1]
          have hqa := hd0.trans (hq.mono hd0.size)
          refine hK.out _ _ ⟨(HE.out _ hqa).2.1, (HE.out _ hqa).2.2.1⟩ ?_
          clear hK K hq hd0
          have HA := Lib.hid hqa
          clear hqa
          (try simp only [Act.put, List.setIfInBounds_toArray, List.set_cons_zero, List.set_cons_succ])
          refine ordt_e ?_
          (refine op_e (o := ?_) ?_ ?_ (fun K hK => ?_); rotate_left 1; (focus ((simp only [List.getElem?_toArray, List.getElem?_cons_succ, List.getElem?_cons_zero]) <;> rfl)); (focus rfl); go_simp)
          refine (EvalBdd_i _ d' k _ (HE.out _ HA.out).2.2.2.2.1 ⟨by omega, by omega⟩).mono ?_
          rintro e wf ⟨rfl, hq⟩
          rw [HY.out.2.2]
          have hqf := HA.out.trans (hq.mono HA.out.size)
          refine hK.out _ _ ⟨(HE.out _ hqf).2.1, (HE.out _ hqf).2.2.1⟩ ?_
          clear hK K hq
          have HF := Lib.hid hqf
          clear hqf
          (try simp only [Act.put, List.setIfInBounds_toArray, List.set_cons_zero, List.set_cons_succ])
          repeat (first | (refine ordt_s (o := ?_) ?_ ?_ ?_; rotate_left 1; (focus ((simp only [List.getElem?_toArray, List.getElem?_cons_succ, List.getElem?_cons_zero]) <;> rfl)); (focus rfl); simp only [Act.put, List.setIfInBounds_toArray, List.set_cons_zero, List.set_cons_succ]) | (refine ordt_q (o := ?_) (v := ?_) ?_ ?_ ?_ ?_; rotate_left 2; (focus ((simp only [List.getElem?_toArray, List.getElem?_cons_succ, List.getElem?_cons_zero]) <;> rfl)); (focus rfl); (focus (intro w' hS; (try dsimp only at hS); go_split_ands; go_simp; (try (with_reducible rfl)))); simp only [Act.put, List.setIfInBounds_toArray, List.set_cons_zero, List.set_cons_succ]))
          refine ordt_nil ?_
          cases y
          all_goals
            go_wp2_with fail
            go_roundw
          all_goals first
            | (case rel => exact ⟨k + 1, by omega, by go_num, HF.out⟩)
            | (case measure => simp [intOf]; omega)
        · have hlen : d.nodes.length = d'.nodes.length := by
            rw [HJ.out.2, HJ.out.1, HDD.out, bdR_cm HX.out.2.2.2.1, bdR_yes HX.out.2.2.2.1, bdK_cmp_len]
          have HV := Lib.hid hlen
          clear hlen
          go_wp2_with fail
          go_ret
          exact ⟨ret_bool (by rw [HV.out]; simp), (HE.out _ HR.out).2.2.2.2.2⟩
    · have HN : Hid (d.nodes.length = 0) := by show _ = _; rw [HDD.out, bdR_no hok]; rfl
      have HT : Hid (decide (tsOk C i) = false) := decide_eq_false hok
      clear hok
      have hd0 := (Below.refl W2.heap.size W2).drew
      refine wp_region_T (fun w' => (∀ o, w'.cell? ⟨B, o, none⟩ = #[Value.int .i64 C.inp, .slice sn C.next.length cn, .slice sg C.gates.length cg, .slice so C.outs.length co][o]?) ∧ (∀ o, w'.cell? ⟨D, o, none⟩ = #[Value.slice sb d.nodes.length cb2, .int .i64 d.root][o]?)) (.q 0 (.q 1 (.q 2 (.e 3 (.e 4 (.q 5 .nil)))))) (by kernel_rfl) (by kernel_rfl) (by kernel_rfl) ⟨(HB.out _ hd0).1, (HB.out _ hd0).2.1⟩ ?_
      repeat (first | (refine ordt_s (o := ?_) ?_ ?_ ?_; rotate_left 1; (focus ((simp only [List.getElem?_toArray, List.getElem?_cons_succ, List.getElem?_cons_zero]) <;> rfl)); (focus rfl); simp only [Act.put, List.setIfInBounds_toArray, List.set_cons_zero, List.set_cons_succ]) | (refine ordt_q (o := ?_) (v := ?_) ?_ ?_ ?_ ?_; rotate_left 2; (focus ((simp only [List.getElem?_toArray, List.getElem?_cons_succ, List.getElem?_cons_zero]) <;> rfl)); (focus rfl); (focus (intro w' hS; (try dsimp only at hS); go_split_ands; go_simp; (try (with_reducible rfl)))); simp only [Act.put, List.setIfInBounds_toArray, List.set_cons_zero, List.set_cons_succ]))
      refine ordt_e ?_
      (refine op_e (o := ?_) ?_ ?_ (fun K hK => ?_); rotate_left 1; (focus ((simp only [List.getElem?_toArray, List.getElem?_cons_succ, List.getElem?_cons_zero]) <;> rfl)); (focus rfl); go_simp)
      refine (BuildBdd_s _ _ _ _ (HC.out _ (HB.out _ hd0).2.2.2.2).1 ⟨by omega, by omega⟩).mono ?_
      rintro e w3 ⟨s3, c3, rfl, h3, hq⟩
      rw [← HDD.out] at h3 ⊢
      have hq3 := hd0.trans hq
      refine hK.out _ _ ⟨(HB.out _ hq3).1, (HB.out _ hq3).2.1⟩ ?_
      clear hK K
      have H3 := Lib.hid (And.intro hq3 h3)
      clear hq3 h3 hq hd0
      (try simp only [Act.put, List.setIfInBounds_toArray, List.set_cons_zero, List.set_cons_succ])
      refine ordt_e ?_
      (refine op_e (o := ?_) ?_ ?_ (fun K hK => ?_); rotate_left 1; (focus ((simp only [List.getElem?_toArray, List.getElem?_cons_succ, List.getElem?_cons_zero]) <;> rfl)); (focus rfl); go_simp)
      refine (sameBdd_any sb s3 cb2 c3 d d true _ (HB.out _ H3.out.1).2.2.2.1 H3.out.2 (by omega) (by omega) ⟨by omega, by omega⟩ ⟨by omega, by omega⟩ ⟨fun _ => rfl, fun _ => rfl⟩).mono ?_
      rintro e w4 ⟨rfl, hq⟩
      have hq4 := H3.out.1.trans (hq.mono H3.out.1.size)
      refine hK.out _ _ ⟨(HB.out _ hq4).1, (HB.out _ hq4).2.1⟩ ?_
      clear hK K hq
      have H4 := Lib.hid hq4
      clear hq4 H3
      (try simp only [Act.put, List.setIfInBounds_toArray, List.set_cons_zero, List.set_cons_succ])
      repeat (first | (refine ordt_s (o := ?_) ?_ ?_ ?_; rotate_left 1; (focus ((simp only [List.getElem?_toArray, List.getElem?_cons_succ, List.getElem?_cons_zero]) <;> rfl)); (focus rfl); simp only [Act.put, List.setIfInBounds_toArray, List.set_cons_zero, List.set_cons_succ]) | (refine ordt_q (o := ?_) (v := ?_) ?_ ?_ ?_ ?_; rotate_left 2; (focus ((simp only [List.getElem?_toArray, List.getElem?_cons_succ, List.getElem?_cons_zero]) <;> rfl)); (focus rfl); (focus (intro w' hS; (try dsimp only at hS); go_split_ands; go_simp; (try (with_reducible rfl)))); simp only [Act.put, List.setIfInBounds_toArray, List.set_cons_zero, List.set_cons_succ]))
      refine ordt_nil ?_
      have cB := (HB.out _ H4.out).1
      have cD := (HB.out _ H4.out).2.1
      have hn0 := HN.out
      go_wp2_with (first | (go_at_call 36; ((with_reducible refine (litExists_any _ C _ _ (HC.out _ (HB.out _ H4.out).2.2.2.2).1 ⟨by omega, by omega⟩).mono ?_); rintro e w5 ⟨rfl, hq⟩; rw [HT.out]; have H5 := Lib.hid (H4.out.trans (hq.mono H4.out.size)); clear hq cB cD; have cB := (HB.out _ H5.out).1; have cD := (HB.out _ H5.out).2.1)) | (go_at_call 21; ((with_reducible refine (alive_any _).mono ?_); rintro e w7 ⟨rfl, hq⟩; have HA := Lib.hid (H5.out.trans (hq.mono H5.out.size)); clear hq)))
      go_ret
      exact ⟨rfl, (HC.out _ (HB.out _ HA.out).2.2.2.2).2.2.2⟩
  · clear hs hr
    go_enter Try.func9, Try.ntmps9
    go_wp2
    go_ret
    exact ⟨rfl, Below.refl _ _⟩

end Go.Proofs.Ytddmgphlhfilnaa
