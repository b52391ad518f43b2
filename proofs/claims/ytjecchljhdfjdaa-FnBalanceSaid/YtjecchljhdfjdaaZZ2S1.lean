import Derived.Test.YtjecchljhdfjdaaZZ2OA
import Derived.Test.YtjecchljhdfjdaaZZ2L4
import Derived.Test.YtjecchljhdfjdaaZZ2Q1
import Derived.Test.YtjecchljhdfjdaaZZ2Q2
import Derived.Test.YtjecchljhdfjdaaZZ2RA
namespace Go.Proofs.Ytjecchljhdfjdaa
set_option linter.unusedVariables false
set_option linter.unusedSimpArgs false
open Go.RowKit

/-! Part of the proof of one law. -/

theorem Sl.src {w : World} {s : Option Addr} {cs : List Value} (h : Sl w s cs) (hp : 0 < cs.length) : ∃ ad, s = some ad ∧ ∀ (j : Nat) (v : Value), cs[j]? = some v → w.cell? (ad.add j) = some v := by
  obtain ⟨b, off, rfl, _, hc⟩ := h.at hp
  exact ⟨_, rfl, fun j v hv => by rw [addr_add]; exact hc j v hv⟩

theorem splice_app {A B C cs : List Value} {off : Nat} (h : A.length = off) (hb : B.length = cs.length) : splice (A ++ (B ++ C)) off cs = A ++ (cs ++ C) := by
  unfold splice
  rw [List.take_left' h, ← List.append_assoc A B C, List.drop_left' (by rw [List.length_append, h, hb])]

theorem splice_vals (V ni nn ng : Nat) (hV : V = 1 + ni + nn + ng) (I S : List Bool) (hI : I.length = ni) (hS : S.length = nn) : splice (splice (bools (List.replicate V false)) 1 (bools I)) (1 + ni) (bools S) = bools ((false :: (I ++ S)) ++ List.replicate ng false) := by
  have e : bools (List.replicate V false) = [Value.bool false] ++ (List.replicate ni (Value.bool false) ++ (List.replicate nn (Value.bool false) ++ List.replicate ng (Value.bool false))) := by
    rw [List.replicate_append_replicate, List.replicate_append_replicate, hV, show 1 + ni + nn + ng = ni + (nn + ng) + 1 from by omega, List.replicate_succ]
    simp [bools]
  rw [e, splice_app (A := [Value.bool false]) (off := 1) rfl (by simp [hI]), ← List.append_assoc, splice_app (by simp [hI]; omega) (by simp [hS])]
  simp [bools]

set_option maxRecDepth 100000 in
set_option maxHeartbeats 1600000 in
theorem evaluate_any (b : Nat) (sn sg : Option Addr) (cn cg : Nat) (vo : Value) (c : Cir) (ss si : Option Addr) (cs ci : Nat) (S I : List Bool) (st : Int) (val : Bool) (w : World)
    (h : CirAt w b c.inp (.slice sn c.next.length cn) (.slice sg c.gates.length cg) vo) (hg : Sl w sg (gcells c.gates)) (hv : c.valid) (hS : Sl w ss (bools S)) (hI : Sl w si (bools I))
    (lS : S.length = c.next.length) (ni : Nat) (lI : I.length = ni) (li : c.inp = ni) (V : Nat) (hV : c.vars = V) (hst : -1 ≤ st) (hst2 : st < V) :
    Calls Try.prog 90 #[.pointer (some ⟨b, 0, none⟩), .slice ss c.next.length cs, .slice si ni ci, .int .i64 st, .bool val] w fun e w' => ∃ g, e = .returned (.slice (some ⟨g, 0, none⟩) V V) ∧
      w'.heap[g]? = some (.cells (bools (valsV st val (stuckB st val (false :: (I ++ S))) c.gates)).toArray 4 (0, 0)) ∧ Below w.heap.size w w' := by
  have HB : Hid (b < w.heap.size) := World.block_lt_of_cell? w _ h.h0
  obtain ⟨f1, f2, f3, f4⟩ := valid_first hv
  obtain ⟨q1, q2, q3, q4, q5⟩ := id hv.lim
  have eF : c.first = 1 + c.inp + c.next.length := rfl
  have n4 : ni ≤ 4 := by omega
  have v1 : V = 1 + ni + c.next.length + c.gates.length := by omega
  have v0 : 1 + ni + c.next.length ≤ V := by omega
  have v2 : V ≤ 22 := by omega
  have H := Lib.hid (And.intro h (And.intro hg (And.intro hv (And.intro hS (And.intro hI (And.intro lS (And.intro lI (And.intro li (And.intro hV (And.intro eF v1))))))))))
  obtain ⟨c0, c1, c2, c3⟩ := h
  rw [li] at c0
  have hmk := fun w => mkBools w V (by omega)
  have hvars := fun w' (hb : Drew w w') => vars_any b c.inp sn sg c.next.length cn c.gates.length cg vo w' ⟨(hb.below _).cell (p := ⟨b, 0, none⟩) HB.out ▸ H.out.1.h0, (hb.below _).cell (p := ⟨b, 1, none⟩) HB.out ▸ H.out.1.h1, (hb.below _).cell (p := ⟨b, 2, none⟩) HB.out ▸ H.out.1.h2, (hb.below _).cell (p := ⟨b, 3, none⟩) HB.out ▸ H.out.1.h3⟩ (by omega) (by omega) (by omega)
  have HM2 : Hid (∀ W, Below w.heap.size w W → CirAt W b c.inp (.slice sn c.next.length cn) (.slice sg c.gates.length cg) vo) := fun W hb => ⟨(hb.cell (p := ⟨b, 0, none⟩) HB.out).trans H.out.1.h0, (hb.cell (p := ⟨b, 1, none⟩) HB.out).trans H.out.1.h1, (hb.cell (p := ⟨b, 2, none⟩) HB.out).trans H.out.1.h2, (hb.cell (p := ⟨b, 3, none⟩) HB.out).trans H.out.1.h3⟩
  have e0 : 1 + c.inp + (c.next.length : Int) + (c.gates.length : Int) = (V : Int) := by omega
  have HM := Lib.hid (And.intro hvars e0)
  clear hvars e0 v1 hg hv hS hI lS lI li hV eF f1 f2 f3
  go_enter Try.func90, Try.ntmps90
  go_upto_region 2 with (go_at_call 38; ((refine (HM.out.1 _ (Drew.refl _)).mono ?_); rintro e w1 ⟨rfl, hd⟩; rw [HM.out.2]; have HD := Lib.hid hd; clear hd))
  clear hmk
  obtain ⟨G, hG⟩ : ∃ G, w1.heap.size = G := ⟨_, rfl⟩
  have HG : Hid (w.heap.size = G) := (show w.heap.size = G by rw [← hG, HD.out.heap])
  have hbA : Below G w (w1.alloc (.cells (bools (List.replicate V false)).toArray 4)) := (HD.out.below _).alloc (by omega) _
  have hbN : (w1.alloc (.cells (bools (List.replicate V false)).toArray 4)).heap[G]? = some (.cells (bools (List.replicate V false)).toArray 4 (0, 0)) := by rw [← hG]; exact blk_new _ _
  rw [hG]
  clear hG c0 c1 c2 c3
  revert hbA hbN
  generalize (w1.alloc (.cells (bools (List.replicate V false)).toArray 4)) = WA
  intro hbA hbN
  have bG : b < G := by rw [← HG.out]; exact HB.out
  have CC : Hid (∀ W, Below G w W → W.cell? ⟨b, 0, none⟩ = some (.int .i64 ni) ∧ W.cell? ⟨b, 2, none⟩ = some (.slice sg c.gates.length cg)) := fun W hW => by
    rw [hW.cell (by exact bG), hW.cell (by exact bG), ← H.out.2.2.2.2.2.2.2.1]; exact ⟨H.out.1.h0, H.out.1.h2⟩
  have HA := Lib.hid (And.intro hbA hbN)
  clear hbA hbN
  obtain ⟨Z0, hZ0⟩ : ∃ Z0, Z0 = bools (List.replicate V false) := ⟨_, rfl⟩
  obtain ⟨X1, hX1⟩ : ∃ X1, X1 = bools I := ⟨_, rfl⟩
  obtain ⟨X2, hX2⟩ : ∃ X2, X2 = bools S := ⟨_, rfl⟩
  have z0 : Z0.length = V := by rw [hZ0]; simp
  have x1 : X1.length = ni := by rw [hX1, bools_length]; exact H.out.2.2.2.2.2.2.1
  have x2 : X2.length = c.next.length := by rw [hX2, bools_length]; exact H.out.2.2.2.2.2.1
  have HZ := Lib.hid (And.intro hZ0 (And.intro hX1 (And.intro hX2 (And.intro z0 (And.intro x1 (And.intro x2 (show ∀ W, Below G w W → (0 < X1.length → ∃ ad, si = some ad ∧ ∀ (j : Nat) (v : Value), X1[j]? = some v → W.cell? (ad.add j) = some v) ∧ (0 < X2.length → ∃ ad, ss = some ad ∧ ∀ (j : Nat) (v : Value), X2[j]? = some v → W.cell? (ad.add j) = some v) from fun W hW => by
      rw [hX1, hX2]
      rw [← HG.out] at hW
      exact ⟨(H.out.2.2.2.2.1.mono hW).src, (H.out.2.2.2.1.mono hW).src⟩)))))))
  clear hZ0 hX1 hX2 z0 x1 x2
  have one1 : Hid (∀ v ∈ X1, v.oneCell' = true) := by rw [HZ.out.2.1]; exact bools_one _
  have one2 : Hid (∀ v ∈ X2, v.oneCell' = true) := by rw [HZ.out.2.2.1]; exact bools_one _
  have H0 : Hid (WA.heap[G]? = some (.cells Z0.toArray 4 (0, 0))) := (show WA.heap[G]? = some (.cells Z0.toArray 4 (0, 0)) by rw [HZ.out.1]; exact HA.out.2)
  have hn1 : Hid (∀ d, d = V - 1 → X1.length = Nat.min ni d) := fun d hd => by have := HZ.out.2.2.2.2.1; show X1.length = min _ _; omega
  have hn2 : Hid (∀ d, d = V - (1 + ni) → X2.length = Nat.min c.next.length d) := fun d hd => by have := HZ.out.2.2.2.2.2.1; show X2.length = min _ _; omega
  go_cut [11, 16, 17] from 18 to 21 (fun o a d wx => o = .slice (some ⟨G, 0, none⟩) V V ∧ a = .int .i64 V ∧ d = .slice (some ⟨G, 0, none⟩) V V ∧ wx.heap[G]? = some (.cells (splice Z0 1 X1).toArray 4 (0, 0)) ∧ Below G w wx)
  case first =>
    go_wp2_with (((with_reducible refine wpList_copy_splice rfl (.tmp 19) (.tmp 20) 55 55 rfl 4 (by kernel_rfl) (by kernel_rfl) _ _ _ _ _ _ rfl rfl G 1 Z0 4 H0.out X1 ?_ ?_ ?_ ?_ G w HA.out.1 (Nat.le_refl _) ?_); rotate_right 1; intro W3 HG3 hB3; have HS3 := Lib.hid (And.intro HG3.out hB3); clear HG3 hB3))
    any_goals first
      | exact one1.out
      | exact hn1.out _ (by omega)
      | exact List.eq_nil_of_length_eq_zero (by have := HZ.out.2.2.2.2.1; omega)
      | exact (HZ.out.2.2.2.2.2.2 WA HA.out.1).1
      | (intro hp; exfalso; have := HZ.out.2.2.2.2.1; omega)
      | (rw [HZ.out.2.2.2.1, HZ.out.2.2.2.2.1]; omega)
      | (go_meet; exact ⟨rfl, rfl, rfl, HS3.out⟩)
      | (go_meet; have e : V = 1 := (by omega); refine ⟨?_, ?_, ?_, HS3.out⟩ <;> (rw [e]; first | done | rfl))
  case rest =>
    obtain ⟨rfl, rfl, rfl, HW1⟩ := hcut
    rename_i W1
    have HA := Lib.hid HW1
    clear HW1 H0
    have c0 := (CC.out _ HA.out.2).1
    go_upto_region 3 with fail
    go_cut [11, 16, 17] from 22 to 30 (fun o a d wx => o = .slice (some ⟨G, 0, none⟩) V V ∧ a = .int .i64 V ∧ d = .slice (some ⟨G, 0, none⟩) V V ∧ wx.heap[G]? = some (.cells (splice (splice Z0 1 X1) (1 + ni) X2).toArray 4 (0, 0)) ∧ Below G w wx)
    case first =>
      go_wp2_with (((with_reducible refine wpList_copy_splice rfl (.tmp 28) (.tmp 29) 55 55 rfl 4 (by kernel_rfl) (by kernel_rfl) _ _ _ _ _ _ rfl rfl G (1 + ni) (splice Z0 1 X1) 4 HA.out.1 X2 ?_ ?_ ?_ ?_ G w HA.out.2 (Nat.le_refl _) ?_); rotate_right 1; intro W3 HG3 hB3; have HS3 := Lib.hid (And.intro HG3.out hB3); clear HG3 hB3))
      any_goals first
        | exact one2.out
        | exact hn2.out _ (by omega)
        | exact List.eq_nil_of_length_eq_zero (by have := HZ.out.2.2.2.2.2.1; omega)
        | exact (HZ.out.2.2.2.2.2.2 _ HA.out.2).2
        | (intro hp; exfalso; have := HZ.out.2.2.2.2.2.1; omega)
        | (rw [length_splice _ _ _ (by rw [HZ.out.2.2.2.1, HZ.out.2.2.2.2.1]; omega), HZ.out.2.2.2.1, HZ.out.2.2.2.2.2.1]; omega)
        | (go_meet; exact ⟨rfl, rfl, rfl, HS3.out⟩)
        | (go_meet; have e : V = 1 + ni := (by omega); refine ⟨?_, ?_, ?_, HS3.out⟩ <;> (rw [e]; first | done | rfl | simp))
    case rest =>
      obtain ⟨rfl, rfl, rfl, HW1⟩ := hcut
      have HB2 : Hid (_ ∧ _) := Lib.hid HW1
      have c2 := (CC.out _ HB2.out.2).2
      clear HW1 HA c0
      have hcells : wc.heap[G]? = some (.cells (bools ((false :: (I ++ S)) ++ List.replicate c.gates.length false)).toArray 4 (0, 0)) := by
        have := HB2.out.1
        rw [HZ.out.1, HZ.out.2.1, HZ.out.2.2.1, splice_vals V ni c.next.length c.gates.length H.out.2.2.2.2.2.2.2.2.2.2 I S H.out.2.2.2.2.2.2.1 H.out.2.2.2.2.2.1] at this
        exact this
      have hlen : (false :: (I ++ S)).length = 1 + ni + c.next.length := by
        have h1 := H.out.2.2.2.2.2.2.1; have h2 := H.out.2.2.2.2.2.1; simp; omega
      have HB3 := Lib.hid (And.intro hcells (And.intro HB2.out.2 hlen))
      clear HB2 hcells hlen
      go_upto_region 4 with fail
      by_cases hs0 : 0 ≤ st
      case' pos =>
        have hpl : st.toNat < (false :: (I ++ S)).length + c.gates.length := by have := HB3.out.2.2; have := H.out.2.2.2.2.2.2.2.2.2.2; omega
        obtain ⟨y, hy⟩ := get_of_lt (l := (false :: (I ++ S)) ++ List.replicate c.gates.length false) (k := st.toNat) (by rw [List.length_append, List.length_replicate]; exact hpl)
        have z1 := bools_cell HB3.out.1 hy
        have z2 : wc.frozen? ⟨G, st.toNat, none⟩ = false := blk_free HB3.out.1
        have hcells := bools_blk_set HB3.out.1 st.toNat val
        rw [tail_stuck (val := val) hpl, HB3.out.2.2, show ((st.toNat : Nat) : Int) = st from by omega] at hcells
        have hb := HB3.out.2.1.setCell (p := ⟨G, st.toNat, none⟩) (Nat.le_refl _) (.bool val)
        have HS := Lib.hid (And.intro hcells hb)
        clear hpl hy hcells hb
        go_upto_region 6 with fail
        have hcells := HS.out.1
        have hb := HS.out.2
        clear HS z1 z2
        revert hcells hb
        generalize (wc.setCell ⟨G, st.toNat, none⟩ (.bool val)) = WL
        intro hcells hb
      case' neg =>
        have hcells := HB3.out.1
        have hb := HB3.out.2.1
        have e : (false :: (I ++ S)) ++ List.replicate c.gates.length false = stuckB st val (false :: (I ++ S)) ++ tailV st val (1 + ni + c.next.length) c.gates.length := by
          rw [show st = -1 from by omega, tailV_none]
          unfold stuckB
          rw [if_neg (by omega)]
        rw [e] at hcells
        have HS := Lib.hid (And.intro hcells hb)
        clear e hcells hb
        go_upto_region 6 with fail
        have hcells := HS.out.1
        have hb := HS.out.2
        clear HS
        revert hcells hb
        generalize wc = WL
        intro hcells hb
      all_goals
        obtain ⟨B0, hB0⟩ : ∃ B0, B0 = stuckB st val (false :: (I ++ S)) := ⟨_, rfl⟩
        obtain ⟨F, hF⟩ : ∃ F, F = 1 + ni + c.next.length := ⟨_, rfl⟩
        have lB0 : B0.length = F := by rw [hB0, stuckB_length, hF]; exact HB3.out.2.2
        rw [← hF] at hcells
        have EF : Hid (1 + c.inp + (c.next.length : Int) = (F : Int) ∧ F = 1 + ni + c.next.length ∧ V = F + c.gates.length) := ⟨by have := H.out.2.2.2.2.2.2.2.1; omega, hF, by have := H.out.2.2.2.2.2.2.2.2.2.2; omega⟩
        have fV : F ≤ 8 := by omega
        rw [← hB0] at hcells
        have HB0 := Lib.hid (And.intro hB0 (And.intro lB0 (And.intro hcells hb)))
        clear HB3 hcells hb c2 hB0 lB0 hF
        have c2 := (CC.out _ HB0.out.2.2.2).2
        go_wp2_with fail
        go_loopw [42] (fun i wr => ∃ k : Nat, k ≤ c.gates.length ∧ i = .int .i64 k ∧ wr.heap[G]? = some (.cells (bools (valsV st val B0 (c.gates.take k) ++ tailV st val (F + k) (c.gates.length - k))).toArray 4 (0, 0)) ∧ Below G w wr) (fun i _ => c.gates.length - (intOf i).toNat)
        case atStart => exact ⟨0, Nat.zero_le _, rfl, by simpa [valsV] using HB0.out.2.2.1, HB0.out.2.2.2⟩
        case round =>
          obtain ⟨k, hk, rfl, hbk, hbl⟩ := hrel
          have hblw : Below w.heap.size w wr := by rw [HG.out]; exact hbl
          have c2 := (CC.out _ hbl).2
          have hlk : (valsV st val B0 (c.gates.take k)).length = F + k := by rw [valsV_length, HB0.out.2.1, List.length_take]; omega
          by_cases hlt : k < c.gates.length
          · obtain ⟨g, hg⟩ := get_of_lt hlt
            obtain ⟨gb, off, rfl, hbw, z1, z2⟩ := H.out.2.1.gate hblw hg
            obtain ⟨⟨a1, a2⟩, b1, b2⟩ := valid_gate H.out.2.2.1 hg
            have hli := H.out.2.2.2.2.2.2.2.1
            have heF := H.out.2.2.2.2.2.2.2.2.2.1
            have hvV := EF.out.2.2
            have hF0 := EF.out.1
            have hsz : G ≤ wr.heap.size := by have := hbl.size; have := HG.out; omega
            have hgl := blk_lt hbk
            have hbA := hbl.alloc hsz (.cells #[.int .i64 g.a, .int .i64 g.b] 24)
            have hbkA := blk_old (o := .cells #[.int .i64 g.a, .int .i64 g.b] 24) hbk
            have hbn := blk_new wr (.cells #[.int .i64 g.a, .int .i64 g.b] 24)
            have a3 : g.a / 2 < F + k := by omega
            have b3 : g.b / 2 < F + k := by omega
            have hlkV : k < c.gates.length := hlt
            have a4 : g.a ≤ 1000000 := by omega
            have b4 : g.b ≤ 1000000 := by omega
            have k22 : F + k < V := by omega
            have HR := Lib.hid (And.intro hbk (And.intro hbl (And.intro hg (And.intro hlk hvV))))
            have HR2 := Lib.hid (And.intro hbA (And.intro hbkA hbn))
            clear hbk hbl hg hlk hvV hF0 hblw hbw hli heF a2 b2 hbA hbkA hbn
            go_upto_region 10 with (first
              | (go_at_call 33; ((refine (firstGate_any _ _ _ _ _ _ _ _ (HM2.out _ (by rw [HG.out]; exact HR2.out.1)) (by omega) (by omega)).mono ?_); rintro e w2 ⟨rfl, hd⟩; rw [EF.out.1]; have HD2 := Lib.hid (And.intro (HR2.out.1.trans (hd.below _)) (And.intro (blk_below (hd.below _) (blk_lt HR2.out.2.1) HR2.out.2.1) (blk_below (hd.below _) (blk_lt HR2.out.2.2) HR2.out.2.2))); clear hd)))
            have en : c.gates.length - k = (c.gates.length - (k + 1)) + 1 := by omega
            have hsn : ∀ x : Bool, x = (litB (valsV st val B0 (c.gates.take k)) g.a && litB (valsV st val B0 (c.gates.take k)) g.b) → ((F + k : Nat) : Int) ≠ st → (valsV st val B0 (c.gates.take k) ++ tailV st val (F + k) (c.gates.length - k)).set (F + k) x = valsV st val B0 (c.gates.take (k + 1)) ++ tailV st val (F + (k + 1)) (c.gates.length - (k + 1)) := fun x hx hne => by
              have := tail_set (st := st) (val := val) (vs := valsV st val B0 (c.gates.take k)) (g := g) (n := c.gates.length - (k + 1)) (by rw [HR.out.2.2.2.1]; exact hne)
              rw [HR.out.2.2.2.1, ← en, ← valsV_snoc HR.out.2.2.1] at this
              rw [hx]; exact this
            have hke : ((F + k : Nat) : Int) = st → valsV st val B0 (c.gates.take k) ++ tailV st val (F + k) (c.gates.length - k) = valsV st val B0 (c.gates.take (k + 1)) ++ tailV st val (F + (k + 1)) (c.gates.length - (k + 1)) := fun hne => by
              have := tail_keep (st := st) (val := val) (vs := valsV st val B0 (c.gates.take k)) (g := g) (n := c.gates.length - (k + 1)) (by rw [HR.out.2.2.2.1]; exact hne)
              rw [HR.out.2.2.2.1, ← en, ← valsV_snoc HR.out.2.2.1] at this
              exact this
            obtain ⟨P, hP⟩ : ∃ P, P = valsV st val B0 (c.gates.take k) := ⟨_, rfl⟩
            obtain ⟨L, hL⟩ : ∃ L, L = valsV st val B0 (c.gates.take k) ++ tailV st val (F + k) (c.gates.length - k) := ⟨_, rfl⟩
            have lP : P.length = F + k := by rw [hP]; exact HR.out.2.2.2.1
            have hLP : ∃ r, L = P ++ r := ⟨_, by rw [hL, hP]⟩
            have lL : L.length = V := by rw [hL, List.length_append, HR.out.2.2.2.1, tailV_length]; have := EF.out.2.2; omega
            rw [← hL] at hsn hke HD2
            rw [← hP] at hsn
            have hlv : ∀ (W : World), W.heap[G]? = some (.cells (bools L).toArray 4 (0, 0)) → ∀ l : Int, 0 ≤ l → l ≤ 1000000 → l / 2 < F + k → Calls Try.prog 97 #[.slice (some ⟨G, 0, none⟩) V V, .int .i64 l] W fun e w' => e = .returned (.bool (litB P l)) ∧ W = w' := fun W hW l h0 h1 h2 => by
              obtain ⟨r, hr⟩ := hLP
              have := litValue_any (some ⟨G, 0, none⟩) L V l W (Sl.toB hW) h0 h1 (by rw [lL]; omega)
              rw [lL, hr, litB_pre (by rw [lP]; omega)] at this
              exact this
            obtain ⟨y, hy⟩ := get_of_lt (l := L) (k := F + k) (by rw [lL]; omega)
            have x1 := bools_cell HD2.out.2.1 hy
            have x2 : w2.frozen? ⟨G, F + k, none⟩ = false := blk_free HD2.out.2.1
            have x3 : w2.cell? ⟨wr.heap.size, 0, none⟩ = some (.int .i64 g.a) := blk_cell HD2.out.2.2
            have x4 : w2.cell? ⟨wr.heap.size, 1, none⟩ = some (.int .i64 g.b) := blk_cell HD2.out.2.2
            have HQ := Lib.hid (And.intro hsn (And.intro hke (And.intro hP (And.intro hL (And.intro lP (And.intro lL hlv))))))
            clear hsn hke hP hL lP hLP lL hlv hy en z1 z2 c2
            obtain ⟨va, hva⟩ : ∃ va, va = litB P g.a := ⟨_, rfl⟩
            obtain ⟨vb, hvb⟩ : ∃ vb, vb = litB P g.b := ⟨_, rfl⟩
            have HV := Lib.hid (And.intro hva hvb)
            clear hva hvb
            by_cases hks : (F : Int) + (k : Int) = st
            · go_wp2_with fail
              go_roundw
              case rel =>
                refine ⟨k + 1, by omega, by go_num, ?_, HD2.out.1⟩
                rw [← HQ.out.2.1 (by omega)]
                exact HD2.out.2.1
              case measure => simp [intOf]; omega
            · cases va
              · go_wp2_with (go_at_call 97; ((with_reducible refine (HQ.out.2.2.2.2.2.2 _ HD2.out.2.1 _ a1 a4 a3).mono ?_); rintro e w3 ⟨rfl, rfl⟩; rw [← HV.out.1]))
                go_roundw
                case rel =>
                  refine ⟨k + 1, by omega, by go_num, ?_, HD2.out.1.setCell (p := ⟨G, F + k, none⟩) (Nat.le_refl _) _⟩
                  have := bools_blk_set HD2.out.2.1 (F + k) false
                  rw [HQ.out.1 _ (by rw [← HV.out.1]; simp) (by omega)] at this
                  exact this
                case measure => simp [intOf]; omega
              · go_wp2_with (first
                  | (go_at_call 97; ((with_reducible refine (HQ.out.2.2.2.2.2.2 _ HD2.out.2.1 _ a1 a4 a3).mono ?_); rintro e w3 ⟨rfl, rfl⟩; rw [← HV.out.1]))
                  | (go_at_call 97; ((with_reducible refine (HQ.out.2.2.2.2.2.2 _ HD2.out.2.1 _ b1 b4 b3).mono ?_); rintro e w3 ⟨rfl, rfl⟩; rw [← HV.out.2])))
                go_roundw
                case rel =>
                  refine ⟨k + 1, by omega, by go_num, ?_, HD2.out.1.setCell (p := ⟨G, F + k, none⟩) (Nat.le_refl _) _⟩
                  have := bools_blk_set HD2.out.2.1 (F + k) vb
                  rw [HQ.out.1 _ (by rw [← HV.out.1, ← HV.out.2]; simp) (by omega)] at this
                  exact this
                case measure => simp [intOf]; omega
          · obtain rfl : k = c.gates.length := by omega
            rw [Nat.sub_self, tailV_zero, List.append_nil, List.take_length, HB0.out.1] at hbk
            have HR := Lib.hid (And.intro hbk hblw)
            clear hbk hbl hblw hlk
            go_wp2
            go_ret
            exact ⟨_, rfl, HR.out.1, HR.out.2⟩

/-! The leaves of a conjunction: the reference's. -/

def Cir.usesS (c : Cir) : List Int := (c.outs ++ c.next) ++ glits c.gates

theorem usesS_eq (c : Cir) (x : Int) : cntL c.usesS x = cntL c.usesI x := by
  unfold Cir.usesS Cir.usesI
  simp only [cntL_append]; omega

theorem cntL_snoc {L : List Int} {k : Nat} {y : Int} (h : L[k]? = some y) (x : Int) : cntL (L.take (k + 1)) x = cntL (L.take k) x + if y / 2 = x then 1 else 0 := by
  rw [List.take_add_one, h]
  show cntL (L.take k ++ [y]) x = _
  rw [cntL_append, cntL_one]

set_option maxHeartbeats 1600000 in
theorem l19Uses_any (v : Value) (c : Cir) (x : Int) (w : World) (h : CirV w v c) (hv : c.valid) :
    Calls Try.prog 82 #[v, .int .i64 x] w fun e w' => ∃ q : Nat, e = .returned (.int .i64 (q : Int)) ∧ q = cntL c.usesI x ∧ Below w.heap.size w w' := by
  obtain ⟨sn, cn, sg, cg, so, co, rfl, h1, h2, h3, hl1, hl2, hl3⟩ := h
  obtain ⟨q1, q2, q3, q4, q5⟩ := id hv.lim
  have hL : Below w.heap.size w (w.alloc (.cells #[.int .i64 c.inp, .slice sn c.next.length cn, .slice sg c.gates.length cg, .slice so c.outs.length co] 28)) := by go_grown
  have hN := blk_new w (.cells #[.int .i64 c.inp, .slice sn c.next.length cn, .slice sg c.gates.length cg, .slice so c.outs.length co] 28)
  have hz : (w.alloc (.cells #[.int .i64 c.inp, .slice sn c.next.length cn, .slice sg c.gates.length cg, .slice so c.outs.length co] 28)).heap.size = w.heap.size + 1 := by simp
  have H := Lib.hid (And.intro h1 (And.intro h2 (And.intro h3 hv)))
  clear h1 h2 h3 hv
  go_enter Try.func82, Try.ntmps82
  go_wp2_with fail
  revert hL hN hz
  generalize (w.alloc (.cells #[.int .i64 c.inp, .slice sn c.next.length cn, .slice sg c.gates.length cg, .slice so c.outs.length co] 28)) = WB
  intro hL hN hz
  have HW := Lib.hid (And.intro hL (And.intro hN hz))
  clear hL hN hz
  refine wp_region_T (fun w' => w'.cell? ⟨w.heap.size, 3, none⟩ = some (.slice so c.outs.length co) ∧ w'.cell? ⟨w.heap.size, 1, none⟩ = some (.slice sn c.next.length cn)) (.q 1 (.q 2 (.q 4 (.q 5 (.e 0 (.e 3 (.e 6 (.q 7 .nil)))))))) (by kernel_rfl) (by kernel_rfl) (by kernel_rfl) ⟨blk_cell HW.out.2.1, blk_cell HW.out.2.1⟩ ?_
  repeat (first | (refine ordt_s (o := ?_) ?_ ?_ ?_; rotate_left 1; (focus ((simp only [zD, zE, zF]) <;> rfl)); (focus rfl); simp only [Act.put, zA, zB, zC]) | (refine ordt_q (o := ?_) (v := ?_) ?_ ?_ ?_ ?_; rotate_left 2; (focus ((simp only [zD, zE, zF]) <;> rfl)); (focus rfl); (focus (intro w' hS; (try dsimp only at hS); go_split_ands; go_simp; (try (with_reducible rfl)))); simp only [Act.put, zA, zB, zC]))
  refine ordt_e ?_
  (refine op_e (o := ?_) ?_ ?_ (fun K hK => ?_); rotate_left 1; (focus ((simp only [zD, zE, zF]) <;> rfl)); (focus rfl); go_simp)
  have hb1 : Below (w.heap.size + 1) WB (WB.alloc (.cells #[] 3)).drew := ((Below.refl _ _).alloc (by have := HW.out.2.2; omega) _).drew
  have ho1 : (WB.alloc (.cells #[] 3)).drew.ownsRow (w.heap.size + 1) 3 1 (.slice (some ⟨WB.heap.size, 0, none⟩) 0 0) 0 [] := own_of_blk (n := 0) (cur := #[]) (blk_new WB _) (by have := HW.out.2.2; omega) (by simp) (by unfold maxLen; omega)
  revert hb1 ho1
  generalize (WB.alloc (.cells #[] 3)).drew = W1
  intro hb1 ho1
  have hbw := HW.out.1.trans (hb1.mono (by omega))
  refine hK.out _ _ ⟨blk_cell (blk_below hb1 (by omega) HW.out.2.1), blk_cell (blk_below hb1 (by omega) HW.out.2.1)⟩ ?_
  clear hK K
  have H1 := Lib.hid (And.intro hb1 (And.intro ho1 hbw))
  clear hb1 ho1 hbw
  (try simp only [Act.put, zA, zB, zC])
  refine ordt_e ?_
  (refine op_e (o := ?_) ?_ ?_ (fun K hK => ?_); rotate_left 1; (focus ((simp only [zD, zE, zF]) <;> rfl)); (focus rfl))
  refine wp_app (.tmp 9) (.tmp 11) rfl elem_int H1.out.2.1 rfl rfl (by simp) (H.out.2.2.1.mono H1.out.2.2) (ints_one _) c.outs.length (by simp) (ints c.outs) (by simp) (by unfold maxLen; omega) (by omega) (by have := H1.out.1.size; have := HW.out.2.2; omega) ?_
  intro s2 c2 W2 ho2 hb2 _ _
  have hb2' := H1.out.1.trans hb2
  have hbw2 := H1.out.2.2.trans (hb2.mono (by omega))
  refine hK.out _ _ ⟨blk_cell (blk_below hb2' (by omega) HW.out.2.1), blk_cell (blk_below hb2' (by omega) HW.out.2.1)⟩ ?_
  clear hK K
  have H2 := Lib.hid (And.intro hb2' (And.intro ho2 hbw2))
  clear hb2 hb2' ho2 hbw2
  (try simp only [Act.put, zA, zB, zC])
  refine ordt_e ?_
  (refine op_e (o := ?_) ?_ ?_ (fun K hK => ?_); rotate_left 1; (focus ((simp only [zD, zE, zF]) <;> rfl)); (focus rfl))
  refine wp_app (.tmp 12) (.tmp 14) rfl elem_int H2.out.2.1 rfl rfl (by simp) (H.out.1.mono H2.out.2.2) (ints_one _) (c.outs.length + c.next.length) (by simp) (ints (c.outs ++ c.next)) (by rw [ints_append]) (by unfold maxLen; omega) (by omega) (by have := H2.out.1.size; have := HW.out.2.2; omega) ?_
  intro s3 c3 W3 ho3 hb3 _ _
  have hb3' := H2.out.1.trans hb3
  have hbw3 := H2.out.2.2.trans (hb3.mono (by omega))
  refine hK.out _ _ ⟨blk_cell (blk_below hb3' (by omega) HW.out.2.1), blk_cell (blk_below hb3' (by omega) HW.out.2.1)⟩ ?_
  clear hK K
  have H3 := Lib.hid (And.intro hb3' (And.intro ho3 hbw3))
  clear hb3 hb3' ho3 hbw3
  (try simp only [Act.put, zA, zB, zC])
  repeat (first | (refine ordt_s (o := ?_) ?_ ?_ ?_; rotate_left 1; (focus ((simp only [zD, zE, zF]) <;> rfl)); (focus rfl); simp only [Act.put, zA, zB, zC]) | (refine ordt_q (o := ?_) (v := ?_) ?_ ?_ ?_ ?_; rotate_left 2; (focus ((simp only [zD, zE, zF]) <;> rfl)); (focus rfl); (focus (intro w' hS; (try dsimp only at hS); go_split_ands; go_simp; (try (with_reducible rfl)))); simp only [Act.put, zA, zB, zC]))
  refine ordt_nil ?_
  go_wp2_with fail
  go_loopw [7, 6] (fun i v6 wr => ∃ (k : Nat) (s : Option Addr) (cc : Nat), k ≤ c.gates.length ∧ i = .int .i64 k ∧ v6 = .slice s (c.outs.length + c.next.length + 2 * k) cc ∧ wr.ownsRow (w.heap.size + 1) 3 1 v6 (c.outs.length + c.next.length + 2 * k) (ints ((c.outs ++ c.next) ++ glits (c.gates.take k))) ∧ Below (w.heap.size + 1) WB wr) (fun i _ _ => c.gates.length - (intOf i).toNat)
  case atStart => exact ⟨0, s3, c3, Nat.zero_le _, rfl, rfl, by simpa [glits] using H3.out.2.1, H3.out.1⟩
  case round =>
    obtain ⟨k, s, cc, hk, rfl, rfl, ho, hb⟩ := hrel
    have hbw := HW.out.1.trans (hb.mono (by omega))
    have c2' : wr.cell? ⟨w.heap.size, 2, none⟩ = some (.slice sg c.gates.length cg) := blk_cell (blk_below hb (by omega) HW.out.2.1)
    have hwz := HW.out.2.2
    by_cases hlt : k < c.gates.length
    · obtain ⟨g, hg⟩ := get_of_lt hlt
      obtain ⟨gb, off, rfl, hgb, z1, z2⟩ := H.out.2.1.gate hbw hg
      have hsn := glits_snoc hg
      have HR := Lib.hid (And.intro ho (And.intro hb (And.intro hbw hsn)))
      clear ho hb hbw hg hsn
      have i0 : (0 : Int) ≤ (k : Int) := by omega
      have i1 : (k : Int) < (c.gates.length : Int) := by omega
      go_wp2_with fail
      refine wp_region_T (fun w' => w'.cell? ⟨w.heap.size, 2, none⟩ = some (.slice (some ⟨gb, off, none⟩) c.gates.length cg) ∧ w'.cell? ⟨gb, off + k * 2, none⟩ = some (.int .i64 g.a) ∧ w'.cell? ⟨gb, off + k * 2 + 1, none⟩ = some (.int .i64 g.b)) (.q 0 (.q 1 (.q 2 (.q 3 (.q 4 (.q 5 (.q 6 (.q 7 (.q 8 (.q 9 (.q 10 (.q 11 (.q 12 (.e 13 (.e 14 (.q 15 .nil)))))))))))))))) (by kernel_rfl) (by kernel_rfl) (by kernel_rfl) ⟨c2', z1, z2⟩ ?_
      repeat (first | (refine ordt_s (o := ?_) ?_ ?_ ?_; rotate_left 1; (focus ((simp only [zD, zE, zF]) <;> rfl)); (focus rfl); simp only [Act.put, zA, zB, zC]) | (refine ordt_q (o := ?_) (v := ?_) ?_ ?_ ?_ ?_; rotate_left 2; (focus ((simp only [zD, zE, zF]) <;> rfl)); (focus rfl); (focus (intro w' hS; (try dsimp only at hS); go_split_ands; go_simp; (try (with_reducible rfl)))); simp only [Act.put, zA, zB, zC]))
      refine ordt_e ?_
      (refine op_e (o := ?_) ?_ ?_ (fun K hK => ?_); rotate_left 1; (focus ((simp only [zD, zE, zF]) <;> rfl)); (focus rfl); go_simp)
      have hb1 : Below wr.heap.size wr (wr.alloc (.cells #[.int .i64 g.a, .int .i64 g.b] 3)).drew := ((Below.refl _ _).alloc (Nat.le_refl _) _).drew
      have hn1 : (wr.alloc (.cells #[.int .i64 g.a, .int .i64 g.b] 3)).drew.heap[wr.heap.size]? = some (.cells #[.int .i64 g.a, .int .i64 g.b] 3 (0, 0)) := blk_new wr _
      revert hb1 hn1
      generalize (wr.alloc (.cells #[.int .i64 g.a, .int .i64 g.b] 3)).drew = W4
      intro hb1 hn1
      have hsz := HR.out.2.1.size
      have hc4 := (hb1.cell (p := ⟨w.heap.size, 2, none⟩) (by simp; omega)).trans c2'
      have hz4 := (hb1.cell (p := ⟨gb, off + k * 2, none⟩) (by have := HR.out.2.2.1.size; simp; omega)).trans z1
      have hz5 := (hb1.cell (p := ⟨gb, off + k * 2 + 1, none⟩) (by have := HR.out.2.2.1.size; simp; omega)).trans z2
      refine hK.out _ _ ⟨hc4, hz4, hz5⟩ ?_
      clear hK K hc4 hz4 hz5
      have H4 := Lib.hid (And.intro hb1 (And.intro (Sl.blk hn1) (own_below HR.out.1 hb1)))
      clear hb1 hn1
      (try simp only [Act.put, zA, zB, zC])
      refine ordt_e ?_
      (refine op_e (o := ?_) ?_ ?_ (fun K hK => ?_); rotate_left 1; (focus ((simp only [zD, zE, zF]) <;> rfl)); (focus rfl))
      refine wp_app (.tmp 23) (.tmp 36) rfl elem_int H4.out.2.2 rfl rfl rfl H4.out.2.1 (by simp [Value.oneCell']) (c.outs.length + c.next.length + 2 * (k + 1)) (by omega) (ints ((c.outs ++ c.next) ++ glits (c.gates.take (k + 1)))) (by rw [HR.out.2.2.2]; simp [ints]) (by unfold maxLen; omega) (by omega) (by have := H4.out.1.size; omega) ?_
      intro s5 c5 W5 ho5 hb5 _ _
      have hb5' : Below (w.heap.size + 1) WB W5 := (HR.out.2.1.trans (H4.out.1.mono (by omega))).trans hb5
      have hbw5 := HW.out.1.trans (hb5'.mono (by omega))
      refine hK.out _ _ ⟨blk_cell (blk_below hb5' (by omega) HW.out.2.1), ?_, ?_⟩ ?_
      · exact (hb5.cell (p := ⟨gb, off + k * 2, none⟩) (by simp; omega)).trans ((H4.out.1.cell (p := ⟨gb, off + k * 2, none⟩) (by simp; omega)).trans z1)
      · exact (hb5.cell (p := ⟨gb, off + k * 2 + 1, none⟩) (by simp; omega)).trans ((H4.out.1.cell (p := ⟨gb, off + k * 2 + 1, none⟩) (by simp; omega)).trans z2)
      clear hK K
      have H5 := Lib.hid (And.intro ho5 hb5')
      clear ho5 hb5 hb5' hbw5
      (try simp only [Act.put, zA, zB, zC])
      repeat (first | (refine ordt_s (o := ?_) ?_ ?_ ?_; rotate_left 1; (focus ((simp only [zD, zE, zF]) <;> rfl)); (focus rfl); simp only [Act.put, zA, zB, zC]) | (refine ordt_q (o := ?_) (v := ?_) ?_ ?_ ?_ ?_; rotate_left 2; (focus ((simp only [zD, zE, zF]) <;> rfl)); (focus rfl); (focus (intro w' hS; (try dsimp only at hS); go_split_ands; go_simp; (try (with_reducible rfl)))); simp only [Act.put, zA, zB, zC]))
      refine ordt_nil ?_
      go_wp2_with fail
      go_roundw
      case rel =>
        exact ⟨k + 1, by omega, by go_num, rfl, by simpa only [List.append_assoc] using H5.out.1, H5.out.2⟩
      case measure => simp [intOf]; omega
    · obtain rfl : k = c.gates.length := by omega
      rw [List.take_length] at ho
      have hlen : c.usesS.length = c.outs.length + c.next.length + 2 * c.gates.length := by unfold Cir.usesS; simp [glits_length]; try omega
      have hus : c.usesS = (c.outs ++ c.next) ++ glits c.gates := rfl
      rw [← hus, ← hlen] at ho
      rw [← hlen]
      have hul : c.usesS.length ≤ 100 := by omega
      have HR := Lib.hid (And.intro (own_sl ho) (And.intro hbw (And.intro hlen hus)))
      clear ho hb hbw hlen hus
      go_wp2_with fail
      clear c2'
      go_loop [8, 5] (fun i v5 => ∃ m : Nat, m ≤ c.usesS.length ∧ i = .int .i64 m ∧ v5 = .int .i64 (cntL (c.usesS.take m) x : Int)) (fun i _ => c.usesS.length - (intOf i).toNat)
      case atStart => exact ⟨0, Nat.zero_le _, rfl, by simp [cntL]⟩
      case round =>
        obtain ⟨m, hm, rfl, rfl⟩ := hrel
        have hcl := cntL_le (c.usesS.take m) x
        rw [List.length_take] at hcl
        by_cases hlt2 : m < c.usesS.length
        · obtain ⟨y, hy⟩ := get_of_lt hlt2
          obtain ⟨yb, yo, rfl, hyb, hyc⟩ := HR.out.1.int (Below.refl _ _) hy
          have hsn := cntL_snoc hy x
          have hyv : 0 ≤ y ∧ y ≤ 1000 := by
            have hval := H.out.2.2.2
            obtain ⟨f1, f2, f3, f4⟩ := valid_first hval
            have hmem := List.mem_of_getElem? hy
            rw [HR.out.2.2.2] at hmem
            rcases List.mem_append.1 hmem with h1 | h1
            · have h2 := (List.mem_append.1 h1).elim (hval.outs y) (hval.next y)
              unfold litP at h2; omega
            · unfold glits at h1
              obtain ⟨g, hg, hy2⟩ := List.mem_flatMap.1 h1
              obtain ⟨j, hj, rfl⟩ := List.getElem_of_mem hg
              obtain ⟨⟨a1, a2⟩, b1, b2⟩ := valid_gate hval (List.getElem?_eq_getElem hj)
              simp at hy2
              rcases hy2 with rfl | rfl <;> omega
          obtain ⟨y0, y1⟩ := hyv
          have HY := Lib.hid (And.intro hy hsn)
          clear hy hsn
          by_cases hyx : y / 2 = x
          · have hb1 : ((y / 2 : Int) == x) = true := by simpa using hyx
            have HYX := Lib.hid hyx
            clear hyx
            go_wp2
            go_round
            case rel => exact ⟨m + 1, by omega, by go_num, by rw [HY.out.2, if_pos HYX.out]; go_num⟩
            case measure => simp [intOf]; omega
          · have hb1 : ((y / 2 : Int) == x) = false := beq_eq_false_iff_ne.2 hyx
            have HYX := Lib.hid hyx
            clear hyx
            go_wp2
            go_round
            case rel => exact ⟨m + 1, by omega, by go_num, by rw [HY.out.2, if_neg HYX.out]; simp⟩
            case measure => simp [intOf]; omega
        · obtain rfl : m = c.usesS.length := by omega
          go_wp2
          go_ret
          exact ⟨cntL c.usesS x, rfl, usesS_eq c x, HR.out.2.1⟩

theorem own_tyb {w : World} {base : Nat} {e : TypeId} {size n : Nat} {v : Value} {xs : List Value} (h : w.ownsRow base e size v n xs) {b : Nat} {arr : Array Value} {t : TypeId} {fz : Nat × Nat} (hb : w.heap[b]? = some (.cells arr t fz)) (he : e ≠ t) : v.ownBlock ≠ some b := by
  intro hk
  rcases h.2 with ⟨rfl, _⟩ | ⟨g, cap, cur, rfl, _, hg, _⟩
  · cases hk
  · simp only [Value.ownBlock, Option.some.injEq] at hk
    subst hk
    rw [hg] at hb
    simp only [Option.some.injEq, Obj.cells.injEq] at hb
    exact he hb.2.1

theorem evalV_gate {c : Cir} (hv : c.valid) (x : Int) {i : Nat} {g : Gt} (hg : c.gates[i]? = some g) :
    litB (evalV c x (-1) false) (2 * (c.first + i)) = (litB (evalV c x (-1) false) g.a && litB (evalV c x (-1) false) g.b) := by
  obtain ⟨⟨a0, a2⟩, b0, b2⟩ := valid_gate hv hg
  obtain ⟨q1, q2, q3, q4, q5⟩ := hv.lim
  have eF : c.first = 1 + c.inp + c.next.length := rfl
  have hi := (List.getElem?_eq_some_iff.1 hg).1
  rw [evalV_no]
  have e1 : valsV (-1) false (asgV c x) c.gates = valsV (-1) false (valsV (-1) false (asgV c x) (c.gates.take (i + 1))) (c.gates.drop (i + 1)) := by
    rw [← valsV_append, List.take_append_drop]
  obtain ⟨r, hr⟩ := valsV_pre (-1) false (valsV (-1) false (asgV c x) (c.gates.take (i + 1))) (c.gates.drop (i + 1))
  rw [e1, hr, valsV_snoc hg]
  obtain ⟨vs, hvs⟩ : ∃ vs, vs = valsV (-1) false (asgV c x) (c.gates.take i) := ⟨_, rfl⟩
  rw [← hvs]
  have hlen : vs.length = c.first.toNat + i := by
    rw [hvs, valsV_length, asgV_length, List.length_take]; omega
  unfold stepV
  rw [if_neg (by omega)]
  have p1 : (2 * (c.first + (i : Int)) / 2).toNat = vs.length := by omega
  have la : litB (vs ++ [litB vs g.a && litB vs g.b] ++ r) g.a = litB vs g.a := by rw [List.append_assoc]; exact litB_pre (by omega)
  have lb : litB (vs ++ [litB vs g.a && litB vs g.b] ++ r) g.b = litB vs g.b := by rw [List.append_assoc]; exact litB_pre (by omega)
  rw [la, lb]
  unfold litB
  rw [p1]
  have e2 : decide (2 * (c.first + (i : Int)) % 2 = 1) = false := by rw [decide_eq_false_iff_not]; omega
  rw [e2]
  simp [List.getD, List.getElem?_append]

theorem elem_gate : ElemOf Try.prog 25 24 (.agg #[.int .i64 0, .int .i64 0]) 2 16 :=
  ⟨by kernel_rfl, info_parts (by kernel_rfl), rfl, by omega⟩

theorem gcells_append (xs ys : List Gt) : gcells xs ++ gcells ys = gcells (xs ++ ys) := by
  induction xs with
  | nil => rfl
  | cons x xs ih => show .int .i64 x.a :: .int .i64 x.b :: (gcells xs ++ gcells ys) = _; rw [ih]; rfl

structure OutC (w : World) (base B : Nat) (inp : Int) (xn : List Int) (xg : List Gt) (xo : List Int) (vn vg vo : Value) : Prop where
  blk : w.heap[B]? = some (.cells #[.int .i64 inp, vn, vg, vo] 28 (0, 0))
  n : w.ownsRow base 3 1 vn xn.length (ints xn)
  g : w.ownsRow base 24 2 vg xg.length (gcells xg)
  o : w.ownsRow base 3 1 vo xo.length (ints xo)
  ne : ∀ k, vn.ownBlock = some k → vo.ownBlock ≠ some k

theorem OutC.below {w w' : World} {base B : Nat} {inp : Int} {xn : List Int} {xg : List Gt} {xo : List Int} {vn vg vo : Value} (h : OutC w base B inp xn xg xo vn vg vo) (hb : Below w.heap.size w w') : OutC w' base B inp xn xg xo vn vg vo :=
  ⟨blk_below hb (blk_lt h.blk) h.blk, own_below h.n hb, own_below h.g hb, own_below h.o hb, h.ne⟩

theorem OutC.pushN {w w2 : World} {base B : Nat} {inp : Int} {xn xn' : List Int} {xg : List Gt} {xo : List Int} {vn vn' vg vo : Value} (h : OutC w base B inp xn xg xo vn vg vo)
    (hg : w.grownBy w2 vn.ownBlock) (ho : w2.ownsRow base 3 1 vn' xn'.length (ints xn')) (hb : vn'.ownBlock = vn.ownBlock ∨ vn'.ownBlock = some w.heap.size) : w2.heap[B]? = some (.cells #[.int .i64 inp, vn, vg, vo] 28 (0, 0)) ∧ OutC (w2.setCell ⟨B, 1, none⟩ vn') base B inp xn' xg xo vn' vg vo := by
  have hB : w2.heap[B]? = some (.cells #[.int .i64 inp, vn, vg, vo] 28 (0, 0)) := by
    rw [hg.block B (blk_lt h.blk) (fun e => own_tyb h.n h.blk (by decide) e.symm)]; exact h.blk
  have hc := Chg.of_grown hg
  have lt : ∀ k, vo.ownBlock = some k → k < w.heap.size := fun k hk => (own_blk h.o hk).2
  refine ⟨hB, by simpa using blk_set (o := 1) (v := vn') hB, own_set_ne ho (own_tyb ho hB (by decide)) _, own_set_ne (hc.own h.g (fun k hk hs => own_ty h.n h.g (by decide) hs hk)) (own_tyb h.g h.blk (by decide)) _, own_set_ne (hc.own h.o (fun k hk hs => h.ne k hs hk)) (own_tyb h.o h.blk (by decide)) _, fun k hk => ?_⟩
  rcases hb with e | e
  · rw [e] at hk; exact h.ne k hk
  · rw [e] at hk; cases hk; intro hk2; have := lt _ hk2; omega

theorem OutC.pushO {w w2 : World} {base B : Nat} {inp : Int} {xn : List Int} {xg : List Gt} {xo xo' : List Int} {vn vg vo vo' : Value} (h : OutC w base B inp xn xg xo vn vg vo)
    (hg : w.grownBy w2 vo.ownBlock) (ho : w2.ownsRow base 3 1 vo' xo'.length (ints xo')) (hb : vo'.ownBlock = vo.ownBlock ∨ vo'.ownBlock = some w.heap.size) : w2.heap[B]? = some (.cells #[.int .i64 inp, vn, vg, vo] 28 (0, 0)) ∧ OutC (w2.setCell ⟨B, 3, none⟩ vo') base B inp xn xg xo' vn vg vo' := by
  have hB : w2.heap[B]? = some (.cells #[.int .i64 inp, vn, vg, vo] 28 (0, 0)) := by
    rw [hg.block B (blk_lt h.blk) (fun e => own_tyb h.o h.blk (by decide) e.symm)]; exact h.blk
  have hc := Chg.of_grown hg
  have lt : ∀ k, vn.ownBlock = some k → k < w.heap.size := fun k hk => (own_blk h.n hk).2
  refine ⟨hB, by simpa using blk_set (o := 3) (v := vo') hB, own_set_ne (hc.own h.n (fun k hk hs => h.ne k hk hs)) (own_tyb h.n h.blk (by decide)) _, own_set_ne (hc.own h.g (fun k hk hs => own_ty h.o h.g (by decide) hs hk)) (own_tyb h.g h.blk (by decide)) _, own_set_ne ho (own_tyb ho hB (by decide)) _, fun k hk hk2 => ?_⟩
  rcases hb with e | e
  · rw [e] at hk2; exact h.ne k hk hk2
  · rw [e] at hk2; cases hk2; have := lt _ hk; omega

theorem OutC.pushG {w w2 : World} {base B : Nat} {inp : Int} {xn : List Int} {xg xg' : List Gt} {xo : List Int} {vn vg vg' vo : Value} (h : OutC w base B inp xn xg xo vn vg vo)
    (hg : w.grownBy w2 vg.ownBlock) (ho : w2.ownsRow base 24 2 vg' xg'.length (gcells xg')) : w2.heap[B]? = some (.cells #[.int .i64 inp, vn, vg, vo] 28 (0, 0)) ∧ OutC (w2.setCell ⟨B, 2, none⟩ vg') base B inp xn xg' xo vn vg' vo := by
  have hB : w2.heap[B]? = some (.cells #[.int .i64 inp, vn, vg, vo] 28 (0, 0)) := by
    rw [hg.block B (blk_lt h.blk) (fun e => own_tyb h.g h.blk (by decide) e.symm)]; exact h.blk
  have hc := Chg.of_grown hg
  exact ⟨hB, by simpa using blk_set (o := 2) (v := vg') hB, own_set_ne (hc.own h.n (fun k hk hs => own_ty h.n h.g (by decide) hk hs)) (own_tyb h.n h.blk (by decide)) _, own_set_ne ho (own_tyb ho hB (by decide)) _, own_set_ne (hc.own h.o (fun k hk hs => own_ty h.o h.g (by decide) hk hs)) (own_tyb h.o h.blk (by decide)) _, h.ne⟩

def mapG (f : Int → Int) (gs : List Gt) : List Gt := gs.map fun g => ⟨f g.a, f g.b⟩

def Cir.mapC (f : Int → Int) (c : Cir) : Cir := ⟨c.inp, c.next.map f, mapG f c.gates, c.outs.map f⟩

theorem mapG_snoc {f : Int → Int} {gs : List Gt} {k : Nat} {g : Gt} (h : gs[k]? = some g) : mapG f (gs.take (k + 1)) = mapG f (gs.take k) ++ [⟨f g.a, f g.b⟩] := by
  rw [List.take_add_one, h]; simp [mapG]

theorem map_snoc {f : Int → Int} {xs : List Int} {k : Nat} {x : Int} (h : xs[k]? = some x) : (xs.take (k + 1)).map f = (xs.take k).map f ++ [f x] := by
  rw [List.take_add_one, h]; simp

theorem own_sets4 {w : World} {base r : Nat} {e : TypeId} {size : Nat} {v : Value} {n : Nat} {xs : List Value} (h : w.ownsRow (base + 1) e size v n xs) (hne : v.ownBlock ≠ some r) {a b c d : Value} : ((((w.setCell ⟨r, 0, none⟩ a).setCell ⟨r, 1, none⟩ b).setCell ⟨r, 2, none⟩ c).setCell ⟨r, 3, none⟩ d).ownsRow base e size v n xs :=
  own_set_ne (own_set_ne (own_set_ne (own_set_ne (own_base h (Nat.le_succ _)) hne _) hne _) hne _) hne _

theorem own_sets4' {w : World} {base base' r : Nat} {e : TypeId} {size : Nat} {v : Value} {n : Nat} {xs : List Value} (h : w.ownsRow base' e size v n xs) (hr : r < base') (hb : base ≤ base') {a b c d : Value} : ((((w.setCell ⟨r, 0, none⟩ a).setCell ⟨r, 1, none⟩ b).setCell ⟨r, 2, none⟩ c).setCell ⟨r, 3, none⟩ d).ownsRow base e size v n xs :=
  have hne : v.ownBlock ≠ some r := fun he => by have := (own_blk h he).1; omega
  own_set_ne (own_set_ne (own_set_ne (own_set_ne (own_base h hb) hne _) hne _) hne _) hne _

theorem CirOwn.sets4 {w : World} {base base' r : Nat} {c : Cir} {vn vg vo : Value} (h : CirOwn w base' c vn vg vo) (hr : r < base') (hb : base ≤ base') {a b' c' d : Value} : CirOwn ((((w.setCell ⟨r, 0, none⟩ a).setCell ⟨r, 1, none⟩ b').setCell ⟨r, 2, none⟩ c').setCell ⟨r, 3, none⟩ d) base c vn vg vo :=
  ⟨own_sets4' h.n hr hb, own_sets4' h.g hr hb, own_sets4' h.o hr hb, h.ne, h.l1, h.l2, h.l3⟩

theorem own_cv {w : World} {base : Nat} {r : Cir} {vn vg vo : Value} (h : CirOwn w base r vn vg vo) : CirV w (.agg #[.int .i64 r.inp, vn, vg, vo]) r := by
  obtain ⟨sn, cn, rfl⟩ := own_shape h.n
  obtain ⟨sg, cg, rfl⟩ := own_shape h.g
  obtain ⟨so, co, rfl⟩ := own_shape h.o
  exact ⟨_, _, _, _, _, _, rfl, own_sl h.n, own_sl h.g, own_sl h.o, h.l1, h.l2, h.l3⟩

theorem own_cbelow {w w' : World} {base : Nat} {r : Cir} {vn vg vo : Value} (h : CirOwn w base r vn vg vo) (hb : Below w.heap.size w w') : CirOwn w' base r vn vg vo :=
  ⟨own_below h.n hb, own_below h.g hb, own_below h.o hb, h.ne, h.l1, h.l2, h.l3⟩

theorem zeroV (w : World) : CirV w (.agg #[.int .i64 0, .slice none 0 0, .slice none 0 0, .slice none 0 0]) ⟨0, [], [], []⟩ :=
  ⟨none, 0, none, 0, none, 0, rfl, .inl rfl, .inl rfl, .inl rfl, by simp, by simp, by simp⟩

theorem below_al (w : World) (o : Obj) : Below w.heap.size w (w.alloc o) := (Below.refl _ _).alloc (Nat.le_refl _) _

theorem Lv_all {c : Cir} (hv : c.valid) (x : Int) : ∀ i, i < c.gates.length → (Lv c i).all (litB (evalV c x (-1) false)) = litB (evalV c x (-1) false) (2 * (c.first + i)) := by
  intro i
  induction i using Nat.strongRecOn with
  | ind i ih =>
    intro hi
    obtain ⟨g, hg⟩ := get_of_lt hi
    obtain ⟨⟨a0, a2⟩, b0, b2⟩ := valid_gate hv hg
    rw [evalV_gate hv x hg, Lv_eq hv hg, List.all_append]
    have key : ∀ l, 0 ≤ l → l / 2 < c.first + i → (lvP c l).all (litB (evalV c x (-1) false)) = litB (evalV c x (-1) false) l := fun l h0 hl => by
      unfold lvP
      by_cases h : oneP c l
      · rw [if_pos h]
        have hj := oneP_lt h hl
        obtain ⟨h1, h2, _⟩ := h
        rw [ih _ hj (by omega)]
        congr 1; omega
      · rw [if_neg h]; simp
    rw [key g.a a0 a2, key g.b b0 b2]

theorem Lv_two {c : Cir} (hv : c.valid) : ∀ i, i < c.gates.length → 2 ≤ (Lv c i).length := by
  intro i
  induction i using Nat.strongRecOn with
  | ind i ih =>
    intro hi
    obtain ⟨g, hg⟩ := get_of_lt hi
    obtain ⟨⟨a0, a2⟩, b0, b2⟩ := valid_gate hv hg
    rw [Lv_eq hv hg, List.length_append]
    have key : ∀ l, 0 ≤ l → l / 2 < c.first + i → 1 ≤ (lvP c l).length := fun l h0 hl => by
      unfold lvP
      by_cases h : oneP c l
      · rw [if_pos h]
        have hj := oneP_lt h hl
        have := ih _ hj (by omega); omega
      · rw [if_neg h]; simp
    have h1 := key g.a a0 a2
    have h2 := key g.b b0 b2
    omega

theorem Lv_mem {c : Cir} (hv : c.valid) : ∀ i, i < c.gates.length → ∀ l ∈ Lv c i, 0 ≤ l ∧ l / 2 < c.first + i := by
  intro i
  induction i using Nat.strongRecOn with
  | ind i ih =>
    intro hi l hl
    obtain ⟨g, hg⟩ := get_of_lt hi
    obtain ⟨⟨a0, a2⟩, b0, b2⟩ := valid_gate hv hg
    rw [Lv_eq hv hg, List.mem_append] at hl
    have key : ∀ m, 0 ≤ m → m / 2 < c.first + i → l ∈ lvP c m → 0 ≤ l ∧ l / 2 < c.first + i := fun m h0 hm hlm => by
      unfold lvP at hlm
      by_cases h : oneP c m
      · rw [if_pos h] at hlm
        have hj := oneP_lt h hm
        have := ih _ hj (by omega) l hlm; omega
      · rw [if_neg h] at hlm
        simp at hlm; subst hlm; exact ⟨h0, hm⟩
    rcases hl with hl | hl
    · exact key _ a0 a2 hl
    · exact key _ b0 b2 hl

end Go.Proofs.Ytjecchljhdfjdaa
