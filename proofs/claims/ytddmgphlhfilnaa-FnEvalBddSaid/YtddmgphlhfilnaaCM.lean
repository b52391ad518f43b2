import Derived.Test.YtddmgphlhfilnaaBH
namespace Go.Proofs.Ytddmgphlhfilnaa
set_option linter.unusedVariables false
set_option linter.unusedSimpArgs false
open Go.RowKit

/-! The reference's diagram, its nodes in a block of their own. -/

def MkPostO (B : Nat) (w : World) (r : List Nd × Int) (e : Ending) (w' : World) : Prop :=
  ∃ s c, e = .returned (.tuple #[.slice s (r.1.length + 2) c, .int .i64 r.2]) ∧ w'.ownsRow B 29 3 (.slice s (r.1.length + 2) c) (r.1.length + 2) (ncells (zz r.1)) ∧ Below w.heap.size w w'

set_option maxHeartbeats 1600000 in
theorem l14Make_own (B : Nat) (s : Option Addr) (cap : Nat) (Ks : List Nd) (v lo hi : Int) (w : World) (ho : w.ownsRow B 29 3 (.slice s (Ks.length + 2) cap) (Ks.length + 2) (ncells (zz Ks))) (hB : B ≤ w.heap.size) (hl : Ks.length ≤ 1000) :
    Calls Try.prog 92 #[.slice s (Ks.length + 2) cap, .int .i64 v, .int .i64 lo, .int .i64 hi] w (MkPostO B w (mkK Ks v lo hi)) := by
  have H := Lib.hid (own_sl ho)
  have HO := Lib.hid ho
  clear ho
  by_cases hlh : lo = hi
  · subst hlh
    go_enter Try.func92, Try.ntmps92
    go_wp2
    exact bodyPost_ret (v := .tuple #[.slice s (Ks.length + 2) cap, .int .i64 lo]) (by simp [results, Try.results92, go_sem]) rfl ⟨_, _, by rw [mkK_eq rfl], by rw [mkK_eq rfl]; exact HO.out, Below.refl _ _⟩
  · have hne : (lo == hi) = false := beq_eq_false_iff_ne.2 hlh
    go_enter Try.func92, Try.ntmps92
    go_wp2
    go_loop [10] (fun i => ∃ k : Nat, k ≤ Ks.length ∧ i = .int .i64 ((k : Int) + 2) ∧ fdK (Ks.take k) ⟨v, lo, hi⟩ = none) (fun i => Ks.length + 2 - (intOf i).toNat)
    case atStart => exact ⟨0, Nat.zero_le _, rfl, rfl⟩
    case round =>
      obtain ⟨k, hk, rfl, hf⟩ := hrel
      have HF := Lib.hid hf
      clear hf
      by_cases hlt : k < Ks.length
      · obtain ⟨g, hg⟩ := get_of_lt hlt
        obtain ⟨b, off, rfl, hbw, z1, z2, z3⟩ := H.out.node (Below.refl _ _) (k := k + 2) (g := g) (by rw [zz_get]; exact hg)
        have HG := Lib.hid hg
        clear hg
        by_cases e : (⟨v, lo, hi⟩ : Nd) = g
        · subst e
          have e := fdK_hit HF.out HG.out
          have HE := Lib.hid e
          clear e
          go_wp2
          exact bodyPost_ret (v := .tuple #[.slice (some ⟨b, off, none⟩) (Ks.length + 2) cap, .int .i64 ((k : Int) + 2)]) (by simp [results, Try.results92, go_sem]) rfl ⟨_, _, by rw [mkK_old hlh HE.out]; rfl, by rw [mkK_old hlh HE.out]; exact HO.out, Below.refl _ _⟩
        · have HE := Lib.hid e
          clear e
          go_wp2
          all_goals first
            | (exfalso; apply HE.out; refine Nd.ext' ?_ ?_ ?_ <;> simp at * <;> omega)
            | skip
          all_goals
            go_round
            case rel => exact ⟨k + 1, by omega, by go_num, fdK_miss HF.out HG.out HE.out⟩
            case measure => simp [intOf]; omega
      · obtain rfl : k = Ks.length := by omega
        have hf := HF.out
        rw [List.take_length] at hf
        have HF2 := Lib.hid hf
        clear hf
        go_upto_region 8 with fail
        have hb1 := (Below.refl w.heap.size w).alloc (Nat.le_refl _) (.cells #[] 29)
        have ho := own_of_blk (base := w.heap.size) (size := 3) (n := 0) (cur := #[]) (blk_new w (.cells #[] 29)) (Nat.le_refl _) (by simp) (by unfold maxLen; omega)
        have hsz : w.heap.size ≤ (w.alloc (.cells #[] 29)).heap.size := by simp
        have HA := Lib.hid (And.intro hb1 (And.intro ho hsz))
        clear hb1 ho hsz
        go_wp2_with (first
          | (at_builtin; refine wpl_app rfl _ _ rfl elem_node HA.out.2.1 rfl rfl (by rw [ncells_length]; simp [zz_length]; omega) (H.out.mono HA.out.1) (ncells_one _) (Ks.length + 2) (by omega) (ncells (zz Ks)) (by simp) (by unfold maxLen; omega) (by omega) HA.out.2.2 ?_; intro s6 c6 w6 h6 hb6 _ _; have HB := Lib.hid (And.intro h6 (HA.out.1.trans hb6)); clear h6 hb6)
          | (at_builtin; refine wpl_app rfl _ _ rfl elem_node (own_below HB.out.1 ((Below.refl _ _).alloc (Nat.le_refl _) _)) rfl rfl rfl (Sl.new _ _ _) (by simp [Value.oneCell']) (Ks.length + 2 + 1) rfl (ncells (zz (Ks ++ [⟨v, lo, hi⟩]))) (by rw [zz_app, ← ncells_append]; rfl) (by unfold maxLen; omega) (by omega) (by have := HB.out.2.size; simp; omega) ?_; intro s7 c7 w7 h7 hb7 _ _; have HC := Lib.hid (And.intro h7 ((HB.out.2.alloc HB.out.2.size _).trans hb7)); clear h7 hb7))
        exact bodyPost_ret (v := .tuple #[.slice s7 (Ks.length + 2 + 1) c7, .int .i64 ((Ks.length : Int) + 2)]) (by simp [results, Try.results92, go_sem]) rfl ⟨s7, c7, by rw [mkK_new hlh HF2.out]; simp, (by rw [mkK_new hlh HF2.out]; have e : (Ks ++ [(⟨v, lo, hi⟩ : Nd)]).length + 2 = Ks.length + 2 + 1 := (by simp); exact (by simpa using own_base HC.out.1 hB)), HC.out.2⟩

set_option maxRecDepth 100000 in
set_option maxHeartbeats 3200000 in
theorem l14Build_own (B : Nat) (sn sg so : Option Addr) (cn cg co : Nat) (c : Cir) (l : Int) (ni : Nat) (hni : c.inp = ni) (hv : c.valid) (l0 : 0 ≤ l) (l2 : l < 2 * c.vars) :
    ∀ (d v x : Nat) (Ks : List Nd) (s : Option Addr) (cap : Nat) (w : World), CirV w (.agg #[.int .i64 ni, .slice sn c.next.length cn, .slice sg c.gates.length cg, .slice so c.outs.length co]) c → w.ownsRow B 29 3 (.slice s (Ks.length + 2) cap) (Ks.length + 2) (ncells (zz Ks)) → B ≤ w.heap.size → v + d = ni + c.next.length → x < 2 ^ v → Ks.length + 2 ^ d ≤ 1000 →
    Calls Try.prog 64 #[.agg #[.int .i64 ni, .slice sn c.next.length cn, .slice sg c.gates.length cg, .slice so c.outs.length co], .int .i64 l, .slice s (Ks.length + 2) cap, .int .i64 (v : Int), .int .i64 (x : Int)] w (MkPostO B w (bldK (litF c l) d v x Ks)) := by
  obtain ⟨f1, f2, f3, f4⟩ := valid_first hv
  obtain ⟨q1, q2, q3, q4, q5⟩ := id hv.lim
  have eF : c.first = 1 + c.inp + c.next.length := rfl
  have n4 : ni ≤ 4 := by omega
  have l3 : l ≤ 100 := by omega
  have hEl : ∀ x, l / 2 < ((evalV c x (-1) false).length : Int) := fun x => by have := evalV_length c x (-1) false; omega
  have HE := Lib.hid hEl
  have HV := Lib.hid (And.intro hv hni)
  clear hEl hv hni f1 f2 f3 f4 eF l2 q1 q2
  intro d
  induction d with
  | zero =>
    intro v x Ks s cap w h hs hBw hvd hx hl
    have hb0 : Below w.heap.size w (w.alloc (.cells #[.int .i64 ni, .slice sn c.next.length cn, .slice sg c.gates.length cg, .slice so c.outs.length co] 44)) := (Below.refl _ _).alloc (Nat.le_refl _) _
    have hk0 := blk_new w (.cells #[.int .i64 ni, .slice sn c.next.length cn, .slice sg c.gates.length cg, .slice so c.outs.length co] 44)
    have HC : Hid (∀ W, Below w.heap.size w W → CirV W (.agg #[.int .i64 ni, .slice sn c.next.length cn, .slice sg c.gates.length cg, .slice so c.outs.length co]) c ∧ W.ownsRow B 29 3 (.slice s (Ks.length + 2) cap) (Ks.length + 2) (ncells (zz Ks)) ∧ B ≤ W.heap.size) := fun W hW => ⟨h.mono hW, own_below hs hW, Nat.le_trans hBw hW.size⟩
    have HB0 := Lib.hid (And.intro hb0 hk0)
    have hx7 : x < 128 := Nat.lt_of_lt_of_le hx (Nat.le_trans (Nat.pow_le_pow_right (by omega) (show v ≤ 7 by omega)) (by decide))
    have hkpw : (1 : Int) ≤ 2 ^ ni := by have : (0 : Int) < 2 ^ ni := Int.pow_pos (by decide); omega
    have d0 : 0 ≤ (x : Int) / 2 ^ ni := Int.ediv_nonneg (by omega) (by omega)
    have d1 : (x : Int) / 2 ^ ni ≤ 1000000 := Int.le_trans (Int.ediv_le_self _ (by omega)) (by omega)
    obtain rfl : v = ni + c.next.length := by omega
    clear h hs hb0 hk0 hx hl hkpw hvd
    have hvn : (((ni + c.next.length : Nat)) : Int) = (ni : Int) + (c.next.length : Int) := by omega
    rw [hvn]
    clear hvn
    go_enter Try.func64, Try.ntmps64
    go_upto_region 1 with fail
    revert HB0
    generalize w.alloc (.cells #[.int .i64 ni, .slice sn c.next.length cn, .slice sg c.gates.length cg, .slice so c.outs.length co] 44) = W1
    intro HB0
    have cb := (blk_all HB0.out.2).1
    go_upto_region 3 with fail
    clear cb
    have hd0 := (Below.refl W1.heap.size W1).drew
    have hs1 := HB0.out.1.size
    have hlt := blk_lt HB0.out.2
    refine wp_region_T (fun w' => ∀ o, w'.cell? ⟨w.heap.size, o, none⟩ = #[Value.int .i64 ni, .slice sn c.next.length cn, .slice sg c.gates.length cg, .slice so c.outs.length co][o]?) (.q 0 (.q 1 (.q 2 (.q 3 (.q 4 (.q 5 (.q 6 (.q 7 (.q 9 (.q 10 (.q 11 (.e 8 (.e 12 (.e 13 (.q 14 .nil))))))))))))))) (by kernel_rfl) (by kernel_rfl) (by kernel_rfl) (blk_all (blk_below hd0 hlt HB0.out.2)).1 ?_
    repeat (first | (refine ordt_s (o := ?_) ?_ ?_ ?_; rotate_left 1; (focus ((simp only [List.getElem?_toArray, List.getElem?_cons_succ, List.getElem?_cons_zero]) <;> rfl)); (focus rfl); simp only [Act.put, List.setIfInBounds_toArray, List.set_cons_zero, List.set_cons_succ]) | (refine ordt_q (o := ?_) (v := ?_) ?_ ?_ ?_ ?_; rotate_left 2; (focus ((simp only [List.getElem?_toArray, List.getElem?_cons_succ, List.getElem?_cons_zero]) <;> rfl)); (focus rfl); (focus (intro w' hS; (try dsimp only at hS); go_split_ands; go_simp; (try (with_reducible rfl)))); simp only [Act.put, List.setIfInBounds_toArray, List.set_cons_zero, List.set_cons_succ]))
    refine ordt_e ?_
    (refine op_e (o := ?_) ?_ ?_ (fun K hK => ?_); rotate_left 1; (focus ((simp only [List.getElem?_toArray, List.getElem?_cons_succ, List.getElem?_cons_zero]) <;> rfl)); (focus rfl); go_simp)
    refine (l4Bits_any _ _ _ d0 d1 (by omega)).mono ?_
    rintro e wa ⟨sa, ca, rfl, ha, hqa⟩
    have hba : Below W1.heap.size W1 wa := hd0.trans hqa
    refine hK.out _ _ (blk_all (blk_below hba hlt HB0.out.2)).1 ?_
    clear hK K hqa
    have HA := Lib.hid (And.intro hba ha)
    have hsa := hba.size
    clear hba ha
    (try simp only [Act.put, List.setIfInBounds_toArray, List.set_cons_zero, List.set_cons_succ])
    repeat (first | (refine ordt_s (o := ?_) ?_ ?_ ?_; rotate_left 1; (focus ((simp only [List.getElem?_toArray, List.getElem?_cons_succ, List.getElem?_cons_zero]) <;> rfl)); (focus rfl); simp only [Act.put, List.setIfInBounds_toArray, List.set_cons_zero, List.set_cons_succ]) | (refine ordt_q (o := ?_) (v := ?_) ?_ ?_ ?_ ?_; rotate_left 2; (focus ((simp only [List.getElem?_toArray, List.getElem?_cons_succ, List.getElem?_cons_zero]) <;> rfl)); (focus rfl); (focus (intro w' hS; (try dsimp only at hS); go_split_ands; go_simp; (try (with_reducible rfl)))); simp only [Act.put, List.setIfInBounds_toArray, List.set_cons_zero, List.set_cons_succ]))
    refine ordt_e ?_
    (refine op_e (o := ?_) ?_ ?_ (fun K hK => ?_); rotate_left 1; (focus ((simp only [List.getElem?_toArray, List.getElem?_cons_succ, List.getElem?_cons_zero]) <;> rfl)); (focus rfl); go_simp)
    refine (l4Bits_any _ _ _ (by omega) (by omega) (by omega)).mono ?_
    rintro e wb ⟨sb, cb, rfl, hb, hqb⟩
    have hbb : Below W1.heap.size W1 wb := HA.out.1.trans (hqb.mono hsa)
    refine hK.out _ _ (blk_all (blk_below hbb hlt HB0.out.2)).1 ?_
    clear hK K
    have HB := Lib.hid (And.intro hbb (And.intro hb (HA.out.2.mono hqb)))
    have hsb := hbb.size
    clear hbb hb hqb
    (try simp only [Act.put, List.setIfInBounds_toArray, List.set_cons_zero, List.set_cons_succ])
    refine ordt_e ?_
    (refine op_e (o := ?_) ?_ ?_ (fun K hK => ?_); rotate_left 1; (focus ((simp only [List.getElem?_toArray, List.getElem?_cons_succ, List.getElem?_cons_zero]) <;> rfl)); (focus rfl); go_simp)
    refine (l2Values_any _ c sa sb ca cb (bitsV ((x : Int) / 2 ^ ni) c.next.length) (bitsV x ni) _ (HC.out _ (HB0.out.1.trans (HB.out.1.mono hs1))).1 HV.out.1 HB.out.2.2 HB.out.2.1 (bitsV_length _ _) ni (bitsV_length _ _) HV.out.2).mono ?_
    rintro e wd ⟨sd, nd, cd, rfl, hnd, hd, hqd⟩
    rw [evalV_asg c x ni HV.out.2] at hnd hd
    have hbd : Below W1.heap.size W1 wd := HB.out.1.trans (hqd.mono hsb)
    refine hK.out _ _ (blk_all (blk_below hbd hlt HB0.out.2)).1 ?_
    clear hK K
    have ndl : l / 2 < nd := by rw [hnd]; exact HE.out _
    have HD := Lib.hid (And.intro (HB0.out.1.trans (hbd.mono hs1)) (And.intro hd hnd))
    clear hbd hd hqd hnd hd0
    (try simp only [Act.put, List.setIfInBounds_toArray, List.set_cons_zero, List.set_cons_succ])
    repeat (first | (refine ordt_s (o := ?_) ?_ ?_ ?_; rotate_left 1; (focus ((simp only [List.getElem?_toArray, List.getElem?_cons_succ, List.getElem?_cons_zero]) <;> rfl)); (focus rfl); simp only [Act.put, List.setIfInBounds_toArray, List.set_cons_zero, List.set_cons_succ]) | (refine ordt_q (o := ?_) (v := ?_) ?_ ?_ ?_ ?_; rotate_left 2; (focus ((simp only [List.getElem?_toArray, List.getElem?_cons_succ, List.getElem?_cons_zero]) <;> rfl)); (focus rfl); (focus (intro w' hS; (try dsimp only at hS); go_split_ands; go_simp; (try (with_reducible rfl)))); simp only [Act.put, List.setIfInBounds_toArray, List.set_cons_zero, List.set_cons_succ]))
    refine ordt_nil ?_
    obtain ⟨y, hy⟩ : ∃ y, y = litF c l x := ⟨_, rfl⟩
    have hY := Lib.hid hy
    clear hy
    go_upto_region 5 with (go_at_call 91; ((with_reducible refine (l2LitN_any _ _ _ _ l _ HD.out.2.2 HD.out.2.1 l0 (by omega) ndl).mono ?_); rintro e w3 ⟨rfl, rfl⟩; rw [show litB (evalV c (x : Int) (-1) false) l = y from hY.out.symm]; cases y))
    all_goals go_wp2_with fail
    · exact bodyPost_ret (v := .tuple #[.slice s (Ks.length + 2) cap, .int .i64 0]) (by simp [results, Try.results64, go_sem]) rfl ⟨s, cap, by unfold bldK; rw [← hY.out]; rfl, (HC.out _ HD.out.1).2.1, HD.out.1⟩
    · exact bodyPost_ret (v := .tuple #[.slice s (Ks.length + 2) cap, .int .i64 1]) (by simp [results, Try.results64, go_sem]) rfl ⟨s, cap, by unfold bldK; rw [← hY.out]; rfl, (HC.out _ HD.out.1).2.1, HD.out.1⟩
  | succ d ih =>
    intro v x Ks s cap w h hs hBw hvd hx hl
    have hb0 : Below w.heap.size w (w.alloc (.cells #[.int .i64 ni, .slice sn c.next.length cn, .slice sg c.gates.length cg, .slice so c.outs.length co] 44)) := (Below.refl _ _).alloc (Nat.le_refl _) _
    have hk0 := blk_new w (.cells #[.int .i64 ni, .slice sn c.next.length cn, .slice sg c.gates.length cg, .slice so c.outs.length co] 44)
    have HC : Hid (∀ W, Below w.heap.size w W → CirV W (.agg #[.int .i64 ni, .slice sn c.next.length cn, .slice sg c.gates.length cg, .slice so c.outs.length co]) c ∧ W.ownsRow B 29 3 (.slice s (Ks.length + 2) cap) (Ks.length + 2) (ncells (zz Ks)) ∧ B ≤ W.heap.size) := fun W hW => ⟨h.mono hW, own_below hs hW, Nat.le_trans hBw hW.size⟩
    have HB0 := Lib.hid (And.intro hb0 hk0)
    have hvn : v < ni + c.next.length := by omega
    have v7 : v ≤ 6 := by omega
    have hx7 : x < 128 := Nat.lt_of_lt_of_le hx (Nat.le_trans (Nat.pow_le_pow_right (by omega) (show v ≤ 7 by omega)) (by decide))
    have hs2 : 2 ^ (d + 1) = 2 ^ d + 2 ^ d := by rw [Nat.pow_succ]; omega
    have hx1 : x < 2 ^ (v + 1) := by rw [Nat.pow_succ]; omega
    have hx2 : x + 2 ^ v < 2 ^ (v + 1) := by rw [Nat.pow_succ]; omega
    have hl1 := bldK_len (litF c l) d (v + 1) x Ks
    have hl2 := bldK_len (litF c l) d (v + 1) (x + 2 ^ v) (bldK (litF c l) d (v + 1) x Ks).1
    have he : bldK (litF c l) (d + 1) v x Ks = mkK (bldK (litF c l) d (v + 1) (x + 2 ^ v) (bldK (litF c l) d (v + 1) x Ks).1).1 v (bldK (litF c l) d (v + 1) x Ks).2 (bldK (litF c l) d (v + 1) (x + 2 ^ v) (bldK (litF c l) d (v + 1) x Ks).1).2 := rfl
    have ih1 := fun w h hs hBw => ih (v + 1) x Ks s cap w h hs hBw (by omega) hx1 (by omega)
    have ih2 := fun s cap w h hs hBw => ih (v + 1) (x + 2 ^ v) (bldK (litF c l) d (v + 1) x Ks).1 s cap w h hs hBw (by omega) hx2 (by omega)
    obtain ⟨r1, hr1⟩ : ∃ r, r = bldK (litF c l) d (v + 1) x Ks := ⟨_, rfl⟩
    rw [← hr1] at hl1 hl2 he ih1 ih2
    obtain ⟨r2, hr2⟩ : ∃ r, r = bldK (litF c l) d (v + 1) (x + 2 ^ v) r1.1 := ⟨_, rfl⟩
    rw [← hr2] at hl2 he ih2
    rw [he]
    obtain ⟨K1, lo⟩ := r1
    obtain ⟨K2, hi⟩ := r2
    simp only at hl1 hl2 ih1 ih2 ⊢
    obtain ⟨P, hP⟩ : ∃ P : Int, P = 2 ^ v := ⟨_, rfl⟩
    have p1 : 1 ≤ P := by have : (0 : Int) < 2 ^ v := Int.pow_pos (by decide); omega
    have p2 : P ≤ 128 := by
      have h7 : (2 : Nat) ^ v ≤ 2 ^ 7 := Nat.pow_le_pow_right (by omega) (by omega)
      have e : (2 : Int) ^ v = ((2 ^ v : Nat) : Int) := by simp
      rw [hP, e]; omega
    have ww1 : IntKind.i64.wrap ((v : Int) + 1) = (v : Int) + 1 := IntWalk.i64_in _ ⟨by omega, by omega⟩
    have ww2 : IntKind.i64.wrap (2 ^ v) = P := by rw [← hP]; exact IntWalk.i64_in _ ⟨by omega, by omega⟩
    have ww3 : IntKind.i64.wrap ((x : Int) + P) = (x : Int) + P := IntWalk.i64_in _ ⟨by omega, by omega⟩
    have ev : (((v + 1 : Nat)) : Int) = (v : Int) + 1 := by omega
    have ev2 : (((x + 2 ^ v : Nat)) : Int) = (x : Int) + P := by rw [hP]; simp
    rw [ev] at ih1 ih2
    rw [ev2] at ih2
    have K2l : K2.length ≤ 1000 := by omega
    have HI1 := Lib.hid ih1
    have HI2 := Lib.hid ih2
    clear h hs hb0 hk0 ih ih1 ih2 he hr1 hr2 hl1 hl2 hx1 hx2 hl ev ev2 hs2 hx hP hvd
    go_enter Try.func64, Try.ntmps64
    go_upto_region 1 with fail
    revert HB0
    generalize w.alloc (.cells #[.int .i64 ni, .slice sn c.next.length cn, .slice sg c.gates.length cg, .slice so c.outs.length co] 44) = W1
    intro HB0
    have cb := (blk_all HB0.out.2).1
    go_upto_region 8 with (go_at_call 64; ((with_reducible refine (HI1.out _ (HC.out _ HB0.out.1).1 (HC.out _ HB0.out.1).2.1 (HC.out _ HB0.out.1).2.2).mono ?_); rintro e w2 ⟨s1, c1, rfl, h1, hq⟩; have H2 := Lib.hid (And.intro (blk_below hq (blk_lt HB0.out.2) HB0.out.2) (And.intro (HB0.out.1.trans (hq.mono HB0.out.1.size)) h1)); clear h1 hq cb; have cb := (blk_all H2.out.1).1))
    clear cb
    have hd0 := (Below.refl w2.heap.size w2).drew
    have hlt := blk_lt H2.out.1
    refine wp_region_T (fun w' => ∀ o, w'.cell? ⟨w.heap.size, o, none⟩ = #[Value.int .i64 ni, .slice sn c.next.length cn, .slice sg c.gates.length cg, .slice so c.outs.length co][o]?) (.q 0 (.q 1 (.q 2 (.q 3 (.q 4 (.q 5 (.q 6 (.q 7 (.q 8 (.e 9 (.q 10 (.q 11 (.q 12 (.q 13 (.q 14 .nil))))))))))))))) (by kernel_rfl) (by kernel_rfl) (by kernel_rfl) (blk_all (blk_below hd0 hlt H2.out.1)).1 ?_
    repeat (first | (refine ordt_s (o := ?_) ?_ ?_ ?_; rotate_left 1; (focus ((simp only [List.getElem?_toArray, List.getElem?_cons_succ, List.getElem?_cons_zero]) <;> rfl)); (focus rfl); simp only [Act.put, List.setIfInBounds_toArray, List.set_cons_zero, List.set_cons_succ]) | (refine ordt_q (o := ?_) (v := ?_) ?_ ?_ ?_ ?_; rotate_left 2; (focus ((simp only [List.getElem?_toArray, List.getElem?_cons_succ, List.getElem?_cons_zero]) <;> rfl)); (focus rfl); (focus (intro w' hS; (try dsimp only at hS); go_split_ands; go_simp; (try (with_reducible rfl)))); simp only [Act.put, List.setIfInBounds_toArray, List.set_cons_zero, List.set_cons_succ]))
    refine ordt_e ?_
    (refine op_e (o := ?_) ?_ ?_ (fun K hK => ?_); rotate_left 1; (focus ((simp only [List.getElem?_toArray, List.getElem?_cons_succ, List.getElem?_cons_zero]) <;> rfl)); (focus rfl); go_simp)
    skip
    refine (HI2.out _ _ _ (HC.out _ (H2.out.2.1.trans (hd0.mono H2.out.2.1.size))).1 (own_below H2.out.2.2 hd0) (HC.out _ (H2.out.2.1.trans (hd0.mono H2.out.2.1.size))).2.2).mono ?_
    rintro e w3 ⟨s2, c2, rfl, h3, hq⟩
    have hq3 := hd0.trans hq
    refine hK.out _ _ (blk_all (blk_below hq3 hlt H2.out.1)).1 ?_
    clear hK K
    have H3 := Lib.hid (And.intro (H2.out.2.1.trans (hq3.mono H2.out.2.1.size)) h3)
    clear h3 hq hq3 hd0
    (try simp only [Act.put, List.setIfInBounds_toArray, List.set_cons_zero, List.set_cons_succ])
    repeat (first | (refine ordt_s (o := ?_) ?_ ?_ ?_; rotate_left 1; (focus ((simp only [List.getElem?_toArray, List.getElem?_cons_succ, List.getElem?_cons_zero]) <;> rfl)); (focus rfl); simp only [Act.put, List.setIfInBounds_toArray, List.set_cons_zero, List.set_cons_succ]) | (refine ordt_q (o := ?_) (v := ?_) ?_ ?_ ?_ ?_; rotate_left 2; (focus ((simp only [List.getElem?_toArray, List.getElem?_cons_succ, List.getElem?_cons_zero]) <;> rfl)); (focus rfl); (focus (intro w' hS; (try dsimp only at hS); go_split_ands; go_simp; (try (with_reducible rfl)))); simp only [Act.put, List.setIfInBounds_toArray, List.set_cons_zero, List.set_cons_succ]))
    refine ordt_nil ?_
    clear ww1 ww2 ww3
    go_wp2_with (go_at_call 92; ((with_reducible refine (l14Make_own B _ _ K2 _ _ _ _ H3.out.2 (HC.out _ H3.out.1).2.2 K2l).mono ?_); rintro e w4 ⟨s3, c3, rfl, h4, hq⟩; have H4 := Lib.hid (And.intro (H3.out.1.trans (hq.mono H3.out.1.size)) h4); clear h4 hq))
    exact bodyPost_ret (v := .tuple #[.slice s3 ((mkK K2 (v : Int) lo hi).1.length + 2) c3, .int .i64 (mkK K2 (v : Int) lo hi).2]) (by simp [results, Try.results64, go_sem]) rfl ⟨s3, c3, rfl, H4.out.2, H4.out.1⟩

def BoPost (w : World) (d : Bd) (e : Ending) (w' : World) : Prop :=
  ∃ s cap, e = .returned (.agg #[.slice s d.nodes.length cap, .int .i64 d.root]) ∧ w'.ownsRow w.heap.size 29 3 (.slice s d.nodes.length cap) d.nodes.length (ncells d.nodes) ∧ Below w.heap.size w w'

set_option maxRecDepth 100000 in
set_option maxHeartbeats 3200000 in
theorem BuildBdd_own (v : Value) (c : Cir) (l : Int) (w : World) (h : CirV w v c) (hts : tsOk c l) (hl : -9223372036854775808 ≤ l ∧ l ≤ 9223372036854775807) :
    Calls Try.prog 26 #[v, .int .i64 l] w (BoPost w (bdR c l)) := by
  have HC : Hid (∀ w', Below w.heap.size w w' → CirV w' v c) := fun w' hb => h.mono hb
  obtain ⟨sn, cn, sg, cg, so, co, rfl, h1, h2, h3, hl1, hl2, hl3⟩ := h
  have hL2 : Below w.heap.size w ((w.alloc (.cells #[.int .i64 c.inp, .slice sn c.next.length cn, .slice sg c.gates.length cg, .slice so c.outs.length co] 44)).alloc (.cells #[.slice none 0 0, .int .i64 0] 25)) := by go_grown
  have hN2 := blk_old (o := (.cells #[.slice none 0 0, .int .i64 0] 25)) (blk_new w (.cells #[.int .i64 c.inp, .slice sn c.next.length cn, .slice sg c.gates.length cg, .slice so c.outs.length co] 44))
  have hM2 : ((w.alloc (.cells #[.int .i64 c.inp, .slice sn c.next.length cn, .slice sg c.gates.length cg, .slice so c.outs.length co] 44)).alloc (.cells #[.slice none 0 0, .int .i64 0] 25)).heap[w.heap.size + 1]? = some (.cells #[.slice none 0 0, .int .i64 0] 25 (0, 0)) := blk_at (by simp)
  have hz2 : ((w.alloc (.cells #[.int .i64 c.inp, .slice sn c.next.length cn, .slice sg c.gates.length cg, .slice so c.outs.length co] 44)).alloc (.cells #[.slice none 0 0, .int .i64 0] 25)).heap.size = w.heap.size + 2 := by simp
  obtain ⟨k1, k2⟩ := hl
  have HTS := Lib.hid hts
  have HL := Lib.hid (And.intro hL2 (And.intro hN2 (And.intro hM2 hz2)))
  clear h1 h2 h3 hL2 hN2 hM2 hz2
  cases hv : c.validB
  · exact absurd hts.1 (by rw [hv]; simp)
  · clear hts
    have hval := c.validB_iff.1 hv
    obtain ⟨f1, f2, f3, f4⟩ := valid_first hval
    obtain ⟨q1, q2, q3, q4, q5⟩ := id hval.lim
    have eC : c.first = 1 + c.inp + c.next.length := rfl
    obtain ⟨ni, hni⟩ : ∃ ni : Nat, c.inp = ni := ⟨c.inp.toNat, by omega⟩
    obtain ⟨F, hF⟩ : ∃ F : Nat, c.first = F := ⟨c.first.toNat, by omega⟩
    obtain ⟨V, hV⟩ : ∃ V : Nat, c.vars = V := ⟨c.vars.toNat, by omega⟩
    have e1 : 1 + (ni : Int) + (c.next.length : Int) = (F : Int) := by omega
    have v22 : V ≤ 22 := by omega
    have f8 : F ≤ 8 := by omega
    have n4 : ni ≤ 4 := by omega
    have w1' : IntKind.i64.wrap ((F : Int) + (c.gates.length : Int)) = (V : Int) := by rw [IntWalk.i64_in _ ⟨by omega, by omega⟩]; omega
    have w2' : IntKind.i64.wrap (2 * (V : Int)) = 2 * (V : Int) := IntWalk.i64_in _ ⟨by omega, by omega⟩
    have w3' : IntKind.i64.wrap (2 * (V : Int) - 1) = 2 * (V : Int) - 1 := IntWalk.i64_in _ ⟨by omega, by omega⟩
    rw [hni] at HC HL ⊢
    have HH := Lib.hid (And.intro hv (And.intro hval (And.intro hni (And.intro hV (And.intro e1 f3)))))
    clear hv hval f1 f2 f3 f4 eC hF hV e1 hni q1 q2
    obtain ⟨ok, hok⟩ : ∃ ok : Bool, decide ((0 : Int) ≤ l ∧ l ≤ 2 * (V : Int) - 1) = ok := ⟨_, rfl⟩
    have HO := Lib.hid hok
    clear hok
    obtain ⟨D, hD⟩ : ∃ D, D = bdR c l := ⟨_, rfl⟩
    rw [← hD]
    have HD := Lib.hid hD
    clear hD
    go_enter Try.func26, Try.ntmps26
    go_upto_region 1 with fail
    revert HL
    generalize ((w.alloc (.cells #[.int .i64 ni, .slice sn c.next.length cn, .slice sg c.gates.length cg, .slice so c.outs.length co] 44)).alloc (.cells #[.slice none 0 0, .int .i64 0] 25)) = WB
    intro HL
    go_cut [22] from 7 to 22 (fun s22 wx => s22 = .bool (!ok) ∧ Below WB.heap.size WB wx)
    case first =>
      refine wp_region_ord (fun w' => ∀ o, w'.cell? ⟨w.heap.size, o, none⟩ = #[Value.int .i64 ni, .slice sn c.next.length cn, .slice sg c.gates.length cg, .slice so c.outs.length co][o]?) ((0, false) :: (1, true) :: (2, false) :: (3, false) :: (4, false) :: (5, false) :: (7, false) :: (8, false) :: (9, false) :: (6, true) :: (10, false) :: (11, false) :: (12, false) :: (13, true) :: (14, false) :: (15, false) :: []) (by kernel_rfl) (by kernel_rfl) (by kernel_rfl) (by kernel_rfl) (blk_all HL.out.2.1).1 ?_
      repeat (first | (refine ord_es (o := ?_) ?_ ?_ (by assumption) ?_; rotate_left 1; (focus ((simp only [List.getElem?_toArray, List.getElem?_cons_succ, List.getElem?_cons_zero]) <;> rfl)); (focus rfl); simp only [Act.put, List.setIfInBounds_toArray, List.set_cons_zero, List.set_cons_succ]) | (refine ord_s (o := ?_) ?_ ?_ ?_; rotate_left 1; (focus ((simp only [List.getElem?_toArray, List.getElem?_cons_succ, List.getElem?_cons_zero]) <;> rfl)); (focus rfl); simp only [Act.put, List.setIfInBounds_toArray, List.set_cons_zero, List.set_cons_succ]) | (refine ord_q (o := ?_) (v := ?_) ?_ ?_ ?_ ?_; rotate_left 2; (focus ((simp only [List.getElem?_toArray, List.getElem?_cons_succ, List.getElem?_cons_zero]) <;> rfl)); (focus rfl); (focus (intro w' hS; (try dsimp only at hS); go_split_ands; go_simp; (try (with_reducible rfl)))); simp only [Act.put, List.setIfInBounds_toArray, List.set_cons_zero, List.set_cons_succ]))
      (refine ord_e (o := ?_) ?_ ?_ (fun K hK => ?_); rotate_left 1; (focus ((simp only [List.getElem?_toArray, List.getElem?_cons_succ, List.getElem?_cons_zero]) <;> rfl)); (focus rfl); go_simp)
      refine (CircuitValid_s _ _ _ (HC.out _ HL.out.1.drew)).mono ?_
      rintro e w1 ⟨rfl, hq⟩
      have hb1 : Below WB.heap.size WB w1 := (Below.refl _ _).drew.trans hq
      have W1 := Lib.hid (And.intro (blk_below hb1 (blk_lt HL.out.2.1) HL.out.2.1) hb1)
      clear hq hb1
      have hSW := (blk_all W1.out.1).1
      refine hK.out _ _ hSW ?_
      clear hK K
      rw [HH.out.1]
      (try simp only [Act.put, List.setIfInBounds_toArray, List.set_cons_zero, List.set_cons_succ])
      repeat (first | (refine ord_es (o := ?_) ?_ ?_ (by assumption) ?_; rotate_left 1; (focus ((simp only [List.getElem?_toArray, List.getElem?_cons_succ, List.getElem?_cons_zero]) <;> rfl)); (focus rfl); simp only [Act.put, List.setIfInBounds_toArray, List.set_cons_zero, List.set_cons_succ]) | (refine ord_s (o := ?_) ?_ ?_ ?_; rotate_left 1; (focus ((simp only [List.getElem?_toArray, List.getElem?_cons_succ, List.getElem?_cons_zero]) <;> rfl)); (focus rfl); simp only [Act.put, List.setIfInBounds_toArray, List.set_cons_zero, List.set_cons_succ]) | (refine ord_q (o := ?_) (v := ?_) ?_ ?_ ?_ ?_; rotate_left 2; (focus ((simp only [List.getElem?_toArray, List.getElem?_cons_succ, List.getElem?_cons_zero]) <;> rfl)); (focus rfl); (focus (intro w' hS; (try dsimp only at hS); go_split_ands; go_simp; (try (with_reducible rfl)))); simp only [Act.put, List.setIfInBounds_toArray, List.set_cons_zero, List.set_cons_succ]))
      (refine ord_e (o := ?_) ?_ ?_ (fun K hK => ?_); rotate_left 1; (focus ((simp only [List.getElem?_toArray, List.getElem?_cons_succ, List.getElem?_cons_zero]) <;> rfl)); (focus rfl); go_simp)
      refine (l1First_any _ _ _ _ _ _ _ (by omega) (by omega)).mono ?_
      rintro e w2 ⟨rfl, hq⟩
      rw [HH.out.2.2.2.2.1]
      have W2 := Lib.hid (And.intro (blk_below hq (blk_lt W1.out.1) W1.out.1) (W1.out.2.trans (hq.mono W1.out.2.size)))
      clear hq hSW
      have hSW := (blk_all W2.out.1).1
      refine hK.out _ _ hSW ?_
      clear hK K
      (try simp only [Act.put, List.setIfInBounds_toArray, List.set_cons_zero, List.set_cons_succ])
      repeat (first | (refine ord_es (o := ?_) ?_ ?_ (by assumption) ?_; rotate_left 1; (focus ((simp only [List.getElem?_toArray, List.getElem?_cons_succ, List.getElem?_cons_zero]) <;> rfl)); (focus rfl); simp only [Act.put, List.setIfInBounds_toArray, List.set_cons_zero, List.set_cons_succ]) | (refine ord_s (o := ?_) ?_ ?_ ?_; rotate_left 1; (focus ((simp only [List.getElem?_toArray, List.getElem?_cons_succ, List.getElem?_cons_zero]) <;> rfl)); (focus rfl); simp only [Act.put, List.setIfInBounds_toArray, List.set_cons_zero, List.set_cons_succ]) | (refine ord_q (o := ?_) (v := ?_) ?_ ?_ ?_ ?_; rotate_left 2; (focus ((simp only [List.getElem?_toArray, List.getElem?_cons_succ, List.getElem?_cons_zero]) <;> rfl)); (focus rfl); (focus (intro w' hS; (try dsimp only at hS); go_split_ands; go_simp; (try (with_reducible rfl)))); simp only [Act.put, List.setIfInBounds_toArray, List.set_cons_zero, List.set_cons_succ]))
      (refine ord_e (o := ?_) ?_ ?_ (fun K hK => ?_); rotate_left 1; (focus ((simp only [List.getElem?_toArray, List.getElem?_cons_succ, List.getElem?_cons_zero]) <;> rfl)); (focus rfl); go_simp)
      refine (l1In_any _ _ _ _).mono ?_
      rintro e w3' ⟨rfl, rfl⟩
      refine hK.out _ _ hSW ?_
      clear hK K
      rw [HO.out]
      (try simp only [Act.put, List.setIfInBounds_toArray, List.set_cons_zero, List.set_cons_succ])
      repeat (first | (refine ord_es (o := ?_) ?_ ?_ (by assumption) ?_; rotate_left 1; (focus ((simp only [List.getElem?_toArray, List.getElem?_cons_succ, List.getElem?_cons_zero]) <;> rfl)); (focus rfl); simp only [Act.put, List.setIfInBounds_toArray, List.set_cons_zero, List.set_cons_succ]) | (refine ord_s (o := ?_) ?_ ?_ ?_; rotate_left 1; (focus ((simp only [List.getElem?_toArray, List.getElem?_cons_succ, List.getElem?_cons_zero]) <;> rfl)); (focus rfl); simp only [Act.put, List.setIfInBounds_toArray, List.set_cons_zero, List.set_cons_succ]) | (refine ord_q (o := ?_) (v := ?_) ?_ ?_ ?_ ?_; rotate_left 2; (focus ((simp only [List.getElem?_toArray, List.getElem?_cons_succ, List.getElem?_cons_zero]) <;> rfl)); (focus rfl); (focus (intro w' hS; (try dsimp only at hS); go_split_ands; go_simp; (try (with_reducible rfl)))); simp only [Act.put, List.setIfInBounds_toArray, List.set_cons_zero, List.set_cons_succ]))
      refine ord_nil ?_
      clear hSW
      go_wp2_with fail
      go_meet
      exact ⟨rfl, W2.out.2⟩
    case rest =>
      obtain ⟨rfl, hb⟩ := hcut
      have hs := hb.size
      have HX := Lib.hid (And.intro (HL.out.1.trans (hb.mono HL.out.1.size)) (And.intro (blk_below hb (blk_lt HL.out.2.1) HL.out.2.1) (blk_below hb (blk_lt HL.out.2.2.1) HL.out.2.2.1)))
      have hwc : w.heap.size + 2 ≤ wc.heap.size := by have := HL.out.2.2.2; omega
      clear hb w1' w2' w3' hs
      have ca := (blk_all HX.out.2.1).1
      cases ok
      · exfalso
        have h1 := HO.out
        rw [decide_eq_false_iff_not] at h1
        have h2 := HTS.out.2; rw [HH.out.2.2.2.1] at h2
        exact h1 (by unfold litP at h2; omega)
      · have h1 := HO.out
        rw [decide_eq_true_eq] at h1
        obtain ⟨o1, o2⟩ := h1
        have e : bdR c l = bdK (litF c l) (ni + c.next.length) := by
          rw [bdR_yes ⟨HH.out.1, by rw [HH.out.2.2.2.1]; exact ⟨o1, by omega⟩⟩, HH.out.2.2.1, Int.toNat_natCast]
        have n7 : ni + c.next.length ≤ 7 := by omega
        have h7 : 2 ^ (ni + c.next.length) ≤ 2 ^ 7 := Nat.pow_le_pow_right (by omega) n7
        have hbu := fun s cap w' h hs hBw => l14Build_own (w.heap.size + 2) sn sg so cn cg co c l ni HH.out.2.2.1 HH.out.2.1 o1 (by rw [HH.out.2.2.2.1]; omega) (ni + c.next.length) 0 0 [] s cap w' h hs hBw (by omega) (by simp) (by simp; omega)
        obtain ⟨r, hr⟩ : ∃ r, r = bldK (litF c l) (ni + c.next.length) 0 0 [] := ⟨_, rfl⟩
        have hd : bdK (litF c l) (ni + c.next.length) = ⟨zz r.1, r.2⟩ := by rw [hr]; rfl
        rw [← hr, show (((0 : Nat)) : Int) = 0 from rfl] at hbu
        simp only [List.length_nil, Nat.zero_add] at hbu
        have e2 := (HD.out.trans e).trans hd
        clear HD
        subst e2
        have HBU := Lib.hid hbu
        clear e hd hr h7 hbu
        go_upto_region 3 with fail
        have hba := (Below.refl wc.heap.size wc).alloc (Nat.le_refl _) (.cells #[.int .i64 0, .int .i64 0, .int .i64 0, .int .i64 0, .int .i64 0, .int .i64 0] 29)
        have hsl := own_of_blk (base := w.heap.size + 2) (size := 3) (n := 2) (cur := (ncells (zz [])).toArray) (blk_new wc (.cells #[.int .i64 0, .int .i64 0, .int .i64 0, .int .i64 0, .int .i64 0, .int .i64 0] 29)) hwc (by simp [ncells_length, zz_length]) (by unfold maxLen; omega)
        have hsz2 : w.heap.size + 2 ≤ (wc.alloc (.cells #[.int .i64 0, .int .i64 0, .int .i64 0, .int .i64 0, .int .i64 0, .int .i64 0] 29)).heap.size := by simp; omega
        have hA := HX.out.1.trans (hba.mono HX.out.1.size)
        have HA := Lib.hid (And.intro hA (And.intro hsl (And.intro (blk_below hba (blk_lt HX.out.2.2) HX.out.2.2) hsz2)))
        clear hba hsl hA hsz2
        go_wp2_with (go_at_call 64; ((with_reducible refine (HBU.out _ _ _ (HC.out _ HA.out.1) HA.out.2.1 HA.out.2.2.2).mono ?_); rintro e w5 ⟨s5, c5, rfl, h5, hq⟩; have hm := blk_below hq (blk_lt HA.out.2.2.1) HA.out.2.2.1; obtain ⟨rc, rf⟩ := blk_all hm; have H5 := Lib.hid (And.intro h5 (And.intro (HA.out.1.trans (hq.mono HA.out.1.size)) hm)); clear h5 hq hm))
        have hZ0 : w5.heap[w.heap.size + 1]? = some (.cells #[.slice none 0 0, .int .i64 0] 25 (0, 0)) := H5.out.2.2
        have hZ : ((w5.setCell ⟨w.heap.size + 1, 0, none⟩ (.slice s5 (r.1.length + 2) c5)).setCell ⟨w.heap.size + 1, 1, none⟩ (.int .i64 (r.2))).heap[w.heap.size + 1]? = some (.cells #[.slice s5 (r.1.length + 2) c5, .int .i64 (r.2)] 25 (0, 0)) := by
          simpa using blk_set (o := 1) (v := .int .i64 (r.2)) (blk_set (o := 0) (v := .slice s5 (r.1.length + 2) c5) H5.out.2.2)
        have hRO := H5.out.1
        have hR := own_set_ne (own_set_ne (b := w.heap.size + 1) (o := 0) hRO (by intro e; have := (own_blk hRO e).1; omega) (.slice s5 (r.1.length + 2) c5)) (b := w.heap.size + 1) (o := 1) (by intro e; have := (own_blk hRO e).1; omega) (.int .i64 (r.2))
        have hB := (H5.out.2.1.setCell (p := ⟨w.heap.size + 1, 0, none⟩) (by simp) (.slice s5 (r.1.length + 2) c5)).setCell (p := ⟨w.heap.size + 1, 1, none⟩) (by simp) (.int .i64 (r.2))
        revert hZ hR hB
        generalize ((w5.setCell ⟨w.heap.size + 1, 0, none⟩ (.slice s5 (r.1.length + 2) c5)).setCell ⟨w.heap.size + 1, 1, none⟩ (.int .i64 (r.2))) = WZ
        intro hZ hR hB
        have cr := (blk_all hZ).1
        exact bodyPost_ret (v := .agg #[.slice s5 (r.1.length + 2) c5, .int .i64 (r.2)]) (by simp [results, Try.results26, go_sem, cr]) rfl ⟨_, _, rfl, own_base hR (by omega), hB⟩

end Go.Proofs.Ytddmgphlhfilnaa
