import Derived.Test.YtdcjiclonjillaaZZ63V6
import Derived.Test.YtdcjiclonjillaaZZ63L4
import Derived.Test.YtdcjiclonjillaaZZ63Q1
namespace Go.Proofs.Ytdcjiclonjillaa
set_option linter.unusedVariables false
set_option linter.unusedSimpArgs false
open Go.RowKit

/-! Part of the proof of one law. -/

theorem Sl.src {w : World} {s : Option Addr} {cs : List Value} (h : Sl w s cs) (hp : 0 < cs.length) : ∃ ad, s = some ad ∧ ∀ (j : Nat) (v : Value), cs[j]? = some v → w.cell? (ad.add j) = some v := by
  obtain ⟨b, off, rfl, _, hc⟩ := h.at hp
  exact ⟨_, rfl, fun j v hv => by rw [addr_add]; exact hc j v hv⟩

theorem splice_app {A B C cs : List Value} {off : Nat} (h : A.length = off) (hb : B.length = cs.length) : splice (A ++ (B ++ C)) off cs = A ++ (cs ++ C) := by
  unfold splice
  rw [List.take_left' h, ← List.append_assoc A B C, List.drop_left' (by rw [List.length_append, h, hb])]

theorem splice_vals (V ni nn ng : Nat) (hV : V = 1 + ni + nn + ng) (I S : List Bool) (hI : I.length = ni) (hS : S.length = nn) : splice (splice (bools (List.replicate V false)) 1 (bools I)) (1 + ni) (bools S) = bools ((false :: (I ++ S)) ++ List.replicate ng false) := by
  have e : bools (List.replicate V false) = [Value.bool false] ++ (List.replicate ni (Value.bool false) ++ (List.replicate nn (Value.bool false) ++ List.replicate ng (Value.bool false))) := by
    rw [List.replicate_append_replicate, List.replicate_append_replicate, hV, show 1 + ni + nn + ng = ni + (nn + ng) + 1 from by omega, List.replicate_succ]
    simp [bools]
  rw [e, splice_app (A := [Value.bool false]) (off := 1) rfl (by simp [hI]), ← List.append_assoc, splice_app (by simp [hI]; omega) (by simp [hS])]
  simp [bools]

set_option maxRecDepth 100000 in
set_option maxHeartbeats 1600000 in
theorem evaluate_any (b : Nat) (sn sg : Option Addr) (cn cg : Nat) (vo : Value) (c : Cir) (ss si : Option Addr) (cs ci : Nat) (S I : List Bool) (st : Int) (val : Bool) (w : World)
    (h : CirAt w b c.inp (.slice sn c.next.length cn) (.slice sg c.gates.length cg) vo) (hg : Sl w sg (gcells c.gates)) (hv : c.valid) (hS : Sl w ss (bools S)) (hI : Sl w si (bools I))
    (lS : S.length = c.next.length) (ni : Nat) (lI : I.length = ni) (li : c.inp = ni) (V : Nat) (hV : c.vars = V) (hst : -1 ≤ st) (hst2 : st < V) :
    Calls Try.prog 90 #[.pointer (some ⟨b, 0, none⟩), .slice ss c.next.length cs, .slice si ni ci, .int .i64 st, .bool val] w fun e w' => ∃ g, e = .returned (.slice (some ⟨g, 0, none⟩) V V) ∧
      w'.heap[g]? = some (.cells (bools (valsV st val (stuckB st val (false :: (I ++ S))) c.gates)).toArray 4 (0, 0)) ∧ Below w.heap.size w w' := by
  have HB : Hid (b < w.heap.size) := World.block_lt_of_cell? w _ h.h0
  obtain ⟨f1, f2, f3, f4⟩ := valid_first hv
  obtain ⟨q1, q2, q3, q4, q5⟩ := id hv.lim
  have eF : c.first = 1 + c.inp + c.next.length := rfl
  have n4 : ni ≤ 4 := by omega
  have v1 : V = 1 + ni + c.next.length + c.gates.length := by omega
  have v0 : 1 + ni + c.next.length ≤ V := by omega
  have v2 : V ≤ 22 := by omega
  have H := Lib.hid (And.intro h (And.intro hg (And.intro hv (And.intro hS (And.intro hI (And.intro lS (And.intro lI (And.intro li (And.intro hV (And.intro eF v1))))))))))
  obtain ⟨c0, c1, c2, c3⟩ := h
  rw [li] at c0
  have hmk := fun w => mkBools w V (by omega)
  have hvars := fun w' (hb : Drew w w') => vars_any b c.inp sn sg c.next.length cn c.gates.length cg vo w' ⟨(hb.below _).cell (p := ⟨b, 0, none⟩) HB.out ▸ H.out.1.h0, (hb.below _).cell (p := ⟨b, 1, none⟩) HB.out ▸ H.out.1.h1, (hb.below _).cell (p := ⟨b, 2, none⟩) HB.out ▸ H.out.1.h2, (hb.below _).cell (p := ⟨b, 3, none⟩) HB.out ▸ H.out.1.h3⟩ (by omega) (by omega) (by omega)
  have HM2 : Hid (∀ W, Below w.heap.size w W → CirAt W b c.inp (.slice sn c.next.length cn) (.slice sg c.gates.length cg) vo) := fun W hb => ⟨(hb.cell (p := ⟨b, 0, none⟩) HB.out).trans H.out.1.h0, (hb.cell (p := ⟨b, 1, none⟩) HB.out).trans H.out.1.h1, (hb.cell (p := ⟨b, 2, none⟩) HB.out).trans H.out.1.h2, (hb.cell (p := ⟨b, 3, none⟩) HB.out).trans H.out.1.h3⟩
  have e0 : 1 + c.inp + (c.next.length : Int) + (c.gates.length : Int) = (V : Int) := by omega
  have HM := Lib.hid (And.intro hvars e0)
  clear hvars e0 v1 hg hv hS hI lS lI li hV eF f1 f2 f3
  go_enter Try.func90, Try.ntmps90
  go_upto_region 2 with (go_at_call 38; ((refine (HM.out.1 _ (Drew.refl _)).mono ?_); rintro e w1 ⟨rfl, hd⟩; rw [HM.out.2]; have HD := Lib.hid hd; clear hd))
  clear hmk
  obtain ⟨G, hG⟩ : ∃ G, w1.heap.size = G := ⟨_, rfl⟩
  have HG : Hid (w.heap.size = G) := (show w.heap.size = G by rw [← hG, HD.out.heap])
  have hbA : Below G w (w1.alloc (.cells (bools (List.replicate V false)).toArray 4)) := (HD.out.below _).alloc (by omega) _
  have hbN : (w1.alloc (.cells (bools (List.replicate V false)).toArray 4)).heap[G]? = some (.cells (bools (List.replicate V false)).toArray 4 (0, 0)) := by rw [← hG]; exact blk_new _ _
  rw [hG]
  clear hG c0 c1 c2 c3
  revert hbA hbN
  generalize (w1.alloc (.cells (bools (List.replicate V false)).toArray 4)) = WA
  intro hbA hbN
  have bG : b < G := by rw [← HG.out]; exact HB.out
  have CC : Hid (∀ W, Below G w W → W.cell? ⟨b, 0, none⟩ = some (.int .i64 ni) ∧ W.cell? ⟨b, 2, none⟩ = some (.slice sg c.gates.length cg)) := fun W hW => by
    rw [hW.cell (by exact bG), hW.cell (by exact bG), ← H.out.2.2.2.2.2.2.2.1]; exact ⟨H.out.1.h0, H.out.1.h2⟩
  have HA := Lib.hid (And.intro hbA hbN)
  clear hbA hbN
  obtain ⟨Z0, hZ0⟩ : ∃ Z0, Z0 = bools (List.replicate V false) := ⟨_, rfl⟩
  obtain ⟨X1, hX1⟩ : ∃ X1, X1 = bools I := ⟨_, rfl⟩
  obtain ⟨X2, hX2⟩ : ∃ X2, X2 = bools S := ⟨_, rfl⟩
  have z0 : Z0.length = V := by rw [hZ0]; simp
  have x1 : X1.length = ni := by rw [hX1, bools_length]; exact H.out.2.2.2.2.2.2.1
  have x2 : X2.length = c.next.length := by rw [hX2, bools_length]; exact H.out.2.2.2.2.2.1
  have HZ := Lib.hid (And.intro hZ0 (And.intro hX1 (And.intro hX2 (And.intro z0 (And.intro x1 (And.intro x2 (show ∀ W, Below G w W → (0 < X1.length → ∃ ad, si = some ad ∧ ∀ (j : Nat) (v : Value), X1[j]? = some v → W.cell? (ad.add j) = some v) ∧ (0 < X2.length → ∃ ad, ss = some ad ∧ ∀ (j : Nat) (v : Value), X2[j]? = some v → W.cell? (ad.add j) = some v) from fun W hW => by
      rw [hX1, hX2]
      rw [← HG.out] at hW
      exact ⟨(H.out.2.2.2.2.1.mono hW).src, (H.out.2.2.2.1.mono hW).src⟩)))))))
  clear hZ0 hX1 hX2 z0 x1 x2
  have one1 : Hid (∀ v ∈ X1, v.oneCell' = true) := by rw [HZ.out.2.1]; exact bools_one _
  have one2 : Hid (∀ v ∈ X2, v.oneCell' = true) := by rw [HZ.out.2.2.1]; exact bools_one _
  have H0 : Hid (WA.heap[G]? = some (.cells Z0.toArray 4 (0, 0))) := (show WA.heap[G]? = some (.cells Z0.toArray 4 (0, 0)) by rw [HZ.out.1]; exact HA.out.2)
  have hn1 : Hid (∀ d, d = V - 1 → X1.length = Nat.min ni d) := fun d hd => by have := HZ.out.2.2.2.2.1; show X1.length = min _ _; omega
  have hn2 : Hid (∀ d, d = V - (1 + ni) → X2.length = Nat.min c.next.length d) := fun d hd => by have := HZ.out.2.2.2.2.2.1; show X2.length = min _ _; omega
  go_cut [11, 16, 17] from 18 to 21 (fun o a d wx => o = .slice (some ⟨G, 0, none⟩) V V ∧ a = .int .i64 V ∧ d = .slice (some ⟨G, 0, none⟩) V V ∧ wx.heap[G]? = some (.cells (splice Z0 1 X1).toArray 4 (0, 0)) ∧ Below G w wx)
  case first =>
    go_wp2_with (((with_reducible refine wpList_copy_splice rfl (.tmp 19) (.tmp 20) 55 55 rfl 4 (by kernel_rfl) (by kernel_rfl) _ _ _ _ _ _ rfl rfl G 1 Z0 4 H0.out X1 ?_ ?_ ?_ ?_ G w HA.out.1 (Nat.le_refl _) ?_); rotate_right 1; intro W3 HG3 hB3; have HS3 := Lib.hid (And.intro HG3.out hB3); clear HG3 hB3))
    any_goals first
      | exact one1.out
      | exact hn1.out _ (by omega)
      | exact List.eq_nil_of_length_eq_zero (by have := HZ.out.2.2.2.2.1; omega)
      | exact (HZ.out.2.2.2.2.2.2 WA HA.out.1).1
      | (intro hp; exfalso; have := HZ.out.2.2.2.2.1; omega)
      | (rw [HZ.out.2.2.2.1, HZ.out.2.2.2.2.1]; omega)
      | (go_meet; exact ⟨rfl, rfl, rfl, HS3.out⟩)
      | (go_meet; have e : V = 1 := (by omega); refine ⟨?_, ?_, ?_, HS3.out⟩ <;> (rw [e]; first | done | rfl))
  case rest =>
    obtain ⟨rfl, rfl, rfl, HW1⟩ := hcut
    rename_i W1
    have HA := Lib.hid HW1
    clear HW1 H0
    have c0 := (CC.out _ HA.out.2).1
    go_upto_region 3 with fail
    go_cut [11, 16, 17] from 22 to 30 (fun o a d wx => o = .slice (some ⟨G, 0, none⟩) V V ∧ a = .int .i64 V ∧ d = .slice (some ⟨G, 0, none⟩) V V ∧ wx.heap[G]? = some (.cells (splice (splice Z0 1 X1) (1 + ni) X2).toArray 4 (0, 0)) ∧ Below G w wx)
    case first =>
      go_wp2_with (((with_reducible refine wpList_copy_splice rfl (.tmp 28) (.tmp 29) 55 55 rfl 4 (by kernel_rfl) (by kernel_rfl) _ _ _ _ _ _ rfl rfl G (1 + ni) (splice Z0 1 X1) 4 HA.out.1 X2 ?_ ?_ ?_ ?_ G w HA.out.2 (Nat.le_refl _) ?_); rotate_right 1; intro W3 HG3 hB3; have HS3 := Lib.hid (And.intro HG3.out hB3); clear HG3 hB3))
      any_goals first
        | exact one2.out
        | exact hn2.out _ (by omega)
        | exact List.eq_nil_of_length_eq_zero (by have := HZ.out.2.2.2.2.2.1; omega)
        | exact (HZ.out.2.2.2.2.2.2 _ HA.out.2).2
        | (intro hp; exfalso; have := HZ.out.2.2.2.2.2.1; omega)
        | (rw [length_splice _ _ _ (by rw [HZ.out.2.2.2.1, HZ.out.2.2.2.2.1]; omega), HZ.out.2.2.2.1, HZ.out.2.2.2.2.2.1]; omega)
        | (go_meet; exact ⟨rfl, rfl, rfl, HS3.out⟩)
        | (go_meet; have e : V = 1 + ni := (by omega); refine ⟨?_, ?_, ?_, HS3.out⟩ <;> (rw [e]; first | done | rfl | simp))
    case rest =>
      obtain ⟨rfl, rfl, rfl, HW1⟩ := hcut
      have HB2 : Hid (_ ∧ _) := Lib.hid HW1
      have c2 := (CC.out _ HB2.out.2).2
      clear HW1 HA c0
      have hcells : wc.heap[G]? = some (.cells (bools ((false :: (I ++ S)) ++ List.replicate c.gates.length false)).toArray 4 (0, 0)) := by
        have := HB2.out.1
        rw [HZ.out.1, HZ.out.2.1, HZ.out.2.2.1, splice_vals V ni c.next.length c.gates.length H.out.2.2.2.2.2.2.2.2.2.2 I S H.out.2.2.2.2.2.2.1 H.out.2.2.2.2.2.1] at this
        exact this
      have hlen : (false :: (I ++ S)).length = 1 + ni + c.next.length := by
        have h1 := H.out.2.2.2.2.2.2.1; have h2 := H.out.2.2.2.2.2.1; simp; omega
      have HB3 := Lib.hid (And.intro hcells (And.intro HB2.out.2 hlen))
      clear HB2 hcells hlen
      go_upto_region 4 with fail
      by_cases hs0 : 0 ≤ st
      case' pos =>
        have hpl : st.toNat < (false :: (I ++ S)).length + c.gates.length := by have := HB3.out.2.2; have := H.out.2.2.2.2.2.2.2.2.2.2; omega
        obtain ⟨y, hy⟩ := get_of_lt (l := (false :: (I ++ S)) ++ List.replicate c.gates.length false) (k := st.toNat) (by rw [List.length_append, List.length_replicate]; exact hpl)
        have z1 := bools_cell HB3.out.1 hy
        have z2 : wc.frozen? ⟨G, st.toNat, none⟩ = false := blk_free HB3.out.1
        have hcells := bools_blk_set HB3.out.1 st.toNat val
        rw [tail_stuck (val := val) hpl, HB3.out.2.2, show ((st.toNat : Nat) : Int) = st from by omega] at hcells
        have hb := HB3.out.2.1.setCell (p := ⟨G, st.toNat, none⟩) (Nat.le_refl _) (.bool val)
        have HS := Lib.hid (And.intro hcells hb)
        clear hpl hy hcells hb
        go_upto_region 6 with fail
        have hcells := HS.out.1
        have hb := HS.out.2
        clear HS z1 z2
        revert hcells hb
        generalize (wc.setCell ⟨G, st.toNat, none⟩ (.bool val)) = WL
        intro hcells hb
      case' neg =>
        have hcells := HB3.out.1
        have hb := HB3.out.2.1
        have e : (false :: (I ++ S)) ++ List.replicate c.gates.length false = stuckB st val (false :: (I ++ S)) ++ tailV st val (1 + ni + c.next.length) c.gates.length := by
          rw [show st = -1 from by omega, tailV_none]
          unfold stuckB
          rw [if_neg (by omega)]
        rw [e] at hcells
        have HS := Lib.hid (And.intro hcells hb)
        clear e hcells hb
        go_upto_region 6 with fail
        have hcells := HS.out.1
        have hb := HS.out.2
        clear HS
        revert hcells hb
        generalize wc = WL
        intro hcells hb
      all_goals
        obtain ⟨B0, hB0⟩ : ∃ B0, B0 = stuckB st val (false :: (I ++ S)) := ⟨_, rfl⟩
        obtain ⟨F, hF⟩ : ∃ F, F = 1 + ni + c.next.length := ⟨_, rfl⟩
        have lB0 : B0.length = F := by rw [hB0, stuckB_length, hF]; exact HB3.out.2.2
        rw [← hF] at hcells
        have EF : Hid (1 + c.inp + (c.next.length : Int) = (F : Int) ∧ F = 1 + ni + c.next.length ∧ V = F + c.gates.length) := ⟨by have := H.out.2.2.2.2.2.2.2.1; omega, hF, by have := H.out.2.2.2.2.2.2.2.2.2.2; omega⟩
        have fV : F ≤ 8 := by omega
        rw [← hB0] at hcells
        have HB0 := Lib.hid (And.intro hB0 (And.intro lB0 (And.intro hcells hb)))
        clear HB3 hcells hb c2 hB0 lB0 hF
        have c2 := (CC.out _ HB0.out.2.2.2).2
        go_wp2_with fail
        go_loopw [42] (fun i wr => ∃ k : Nat, k ≤ c.gates.length ∧ i = .int .i64 k ∧ wr.heap[G]? = some (.cells (bools (valsV st val B0 (c.gates.take k) ++ tailV st val (F + k) (c.gates.length - k))).toArray 4 (0, 0)) ∧ Below G w wr) (fun i _ => c.gates.length - (intOf i).toNat)
        case atStart => exact ⟨0, Nat.zero_le _, rfl, by simpa [valsV] using HB0.out.2.2.1, HB0.out.2.2.2⟩
        case round =>
          obtain ⟨k, hk, rfl, hbk, hbl⟩ := hrel
          have hblw : Below w.heap.size w wr := by rw [HG.out]; exact hbl
          have c2 := (CC.out _ hbl).2
          have hlk : (valsV st val B0 (c.gates.take k)).length = F + k := by rw [valsV_length, HB0.out.2.1, List.length_take]; omega
          by_cases hlt : k < c.gates.length
          · obtain ⟨g, hg⟩ := get_of_lt hlt
            obtain ⟨gb, off, rfl, hbw, z1, z2⟩ := H.out.2.1.gate hblw hg
            obtain ⟨⟨a1, a2⟩, b1, b2⟩ := valid_gate H.out.2.2.1 hg
            have hli := H.out.2.2.2.2.2.2.2.1
            have heF := H.out.2.2.2.2.2.2.2.2.2.1
            have hvV := EF.out.2.2
            have hF0 := EF.out.1
            have hsz : G ≤ wr.heap.size := by have := hbl.size; have := HG.out; omega
            have hgl := blk_lt hbk
            have hbA := hbl.alloc hsz (.cells #[.int .i64 g.a, .int .i64 g.b] 24)
            have hbkA := blk_old (o := .cells #[.int .i64 g.a, .int .i64 g.b] 24) hbk
            have hbn := blk_new wr (.cells #[.int .i64 g.a, .int .i64 g.b] 24)
            have a3 : g.a / 2 < F + k := by omega
            have b3 : g.b / 2 < F + k := by omega
            have hlkV : k < c.gates.length := hlt
            have a4 : g.a ≤ 1000000 := by omega
            have b4 : g.b ≤ 1000000 := by omega
            have k22 : F + k < V := by omega
            have HR := Lib.hid (And.intro hbk (And.intro hbl (And.intro hg (And.intro hlk hvV))))
            have HR2 := Lib.hid (And.intro hbA (And.intro hbkA hbn))
            clear hbk hbl hg hlk hvV hF0 hblw hbw hli heF a2 b2 hbA hbkA hbn
            go_upto_region 10 with (first
              | (go_at_call 33; ((refine (firstGate_any _ _ _ _ _ _ _ _ (HM2.out _ (by rw [HG.out]; exact HR2.out.1)) (by omega) (by omega)).mono ?_); rintro e w2 ⟨rfl, hd⟩; rw [EF.out.1]; have HD2 := Lib.hid (And.intro (HR2.out.1.trans (hd.below _)) (And.intro (blk_below (hd.below _) (blk_lt HR2.out.2.1) HR2.out.2.1) (blk_below (hd.below _) (blk_lt HR2.out.2.2) HR2.out.2.2))); clear hd)))
            have en : c.gates.length - k = (c.gates.length - (k + 1)) + 1 := by omega
            have hsn : ∀ x : Bool, x = (litB (valsV st val B0 (c.gates.take k)) g.a && litB (valsV st val B0 (c.gates.take k)) g.b) → ((F + k : Nat) : Int) ≠ st → (valsV st val B0 (c.gates.take k) ++ tailV st val (F + k) (c.gates.length - k)).set (F + k) x = valsV st val B0 (c.gates.take (k + 1)) ++ tailV st val (F + (k + 1)) (c.gates.length - (k + 1)) := fun x hx hne => by
              have := tail_set (st := st) (val := val) (vs := valsV st val B0 (c.gates.take k)) (g := g) (n := c.gates.length - (k + 1)) (by rw [HR.out.2.2.2.1]; exact hne)
              rw [HR.out.2.2.2.1, ← en, ← valsV_snoc HR.out.2.2.1] at this
              rw [hx]; exact this
            have hke : ((F + k : Nat) : Int) = st → valsV st val B0 (c.gates.take k) ++ tailV st val (F + k) (c.gates.length - k) = valsV st val B0 (c.gates.take (k + 1)) ++ tailV st val (F + (k + 1)) (c.gates.length - (k + 1)) := fun hne => by
              have := tail_keep (st := st) (val := val) (vs := valsV st val B0 (c.gates.take k)) (g := g) (n := c.gates.length - (k + 1)) (by rw [HR.out.2.2.2.1]; exact hne)
              rw [HR.out.2.2.2.1, ← en, ← valsV_snoc HR.out.2.2.1] at this
              exact this
            obtain ⟨P, hP⟩ : ∃ P, P = valsV st val B0 (c.gates.take k) := ⟨_, rfl⟩
            obtain ⟨L, hL⟩ : ∃ L, L = valsV st val B0 (c.gates.take k) ++ tailV st val (F + k) (c.gates.length - k) := ⟨_, rfl⟩
            have lP : P.length = F + k := by rw [hP]; exact HR.out.2.2.2.1
            have hLP : ∃ r, L = P ++ r := ⟨_, by rw [hL, hP]⟩
            have lL : L.length = V := by rw [hL, List.length_append, HR.out.2.2.2.1, tailV_length]; have := EF.out.2.2; omega
            rw [← hL] at hsn hke HD2
            rw [← hP] at hsn
            have hlv : ∀ (W : World), W.heap[G]? = some (.cells (bools L).toArray 4 (0, 0)) → ∀ l : Int, 0 ≤ l → l ≤ 1000000 → l / 2 < F + k → Calls Try.prog 97 #[.slice (some ⟨G, 0, none⟩) V V, .int .i64 l] W fun e w' => e = .returned (.bool (litB P l)) ∧ W = w' := fun W hW l h0 h1 h2 => by
              obtain ⟨r, hr⟩ := hLP
              have := litValue_any (some ⟨G, 0, none⟩) L V l W (Sl.toB hW) h0 h1 (by rw [lL]; omega)
              rw [lL, hr, litB_pre (by rw [lP]; omega)] at this
              exact this
            obtain ⟨y, hy⟩ := get_of_lt (l := L) (k := F + k) (by rw [lL]; omega)
            have x1 := bools_cell HD2.out.2.1 hy
            have x2 : w2.frozen? ⟨G, F + k, none⟩ = false := blk_free HD2.out.2.1
            have x3 : w2.cell? ⟨wr.heap.size, 0, none⟩ = some (.int .i64 g.a) := blk_cell HD2.out.2.2
            have x4 : w2.cell? ⟨wr.heap.size, 1, none⟩ = some (.int .i64 g.b) := blk_cell HD2.out.2.2
            have HQ := Lib.hid (And.intro hsn (And.intro hke (And.intro hP (And.intro hL (And.intro lP (And.intro lL hlv))))))
            clear hsn hke hP hL lP hLP lL hlv hy en z1 z2 c2
            obtain ⟨va, hva⟩ : ∃ va, va = litB P g.a := ⟨_, rfl⟩
            obtain ⟨vb, hvb⟩ : ∃ vb, vb = litB P g.b := ⟨_, rfl⟩
            have HV := Lib.hid (And.intro hva hvb)
            clear hva hvb
            by_cases hks : (F : Int) + (k : Int) = st
            · go_wp2_with fail
              go_roundw
              case rel =>
                refine ⟨k + 1, by omega, by go_num, ?_, HD2.out.1⟩
                rw [← HQ.out.2.1 (by omega)]
                exact HD2.out.2.1
              case measure => simp [intOf]; omega
            · cases va
              · go_wp2_with (go_at_call 97; ((with_reducible refine (HQ.out.2.2.2.2.2.2 _ HD2.out.2.1 _ a1 a4 a3).mono ?_); rintro e w3 ⟨rfl, rfl⟩; rw [← HV.out.1]))
                go_roundw
                case rel =>
                  refine ⟨k + 1, by omega, by go_num, ?_, HD2.out.1.setCell (p := ⟨G, F + k, none⟩) (Nat.le_refl _) _⟩
                  have := bools_blk_set HD2.out.2.1 (F + k) false
                  rw [HQ.out.1 _ (by rw [← HV.out.1]; simp) (by omega)] at this
                  exact this
                case measure => simp [intOf]; omega
              · go_wp2_with (first
                  | (go_at_call 97; ((with_reducible refine (HQ.out.2.2.2.2.2.2 _ HD2.out.2.1 _ a1 a4 a3).mono ?_); rintro e w3 ⟨rfl, rfl⟩; rw [← HV.out.1]))
                  | (go_at_call 97; ((with_reducible refine (HQ.out.2.2.2.2.2.2 _ HD2.out.2.1 _ b1 b4 b3).mono ?_); rintro e w3 ⟨rfl, rfl⟩; rw [← HV.out.2])))
                go_roundw
                case rel =>
                  refine ⟨k + 1, by omega, by go_num, ?_, HD2.out.1.setCell (p := ⟨G, F + k, none⟩) (Nat.le_refl _) _⟩
                  have := bools_blk_set HD2.out.2.1 (F + k) vb
                  rw [HQ.out.1 _ (by rw [← HV.out.1, ← HV.out.2]; simp) (by omega)] at this
                  exact this
                case measure => simp [intOf]; omega
          · obtain rfl : k = c.gates.length := by omega
            rw [Nat.sub_self, tailV_zero, List.append_nil, List.take_length, HB0.out.1] at hbk
            have HR := Lib.hid (And.intro hbk hblw)
            clear hbk hbl hblw hlk
            go_wp2
            go_ret
            exact ⟨_, rfl, HR.out.1, HR.out.2⟩

theorem roots_lits {c : Cir} (hv : c.valid) : ∀ x ∈ c.next ++ c.outs, 0 ≤ x ∧ x ≤ 1000000 ∧ x / 2 < c.vars := by
  intro x hx
  have := (List.mem_append.1 hx).elim (hv.next x) (hv.outs x)
  have h2 := valid_first hv
  unfold litP at this; omega

set_option maxHeartbeats 800000 in
theorem results_any (b : Nat) (sn sg so : Option Addr) (cn cg co : Nat) (c : Cir) (k : Nat) (st : Int) (val : Bool) (w : World)
    (h : CirAt w b c.inp (.slice sn c.next.length cn) (.slice sg c.gates.length cg) (.slice so c.outs.length co)) (hn : Sl w sn (ints c.next)) (hg : Sl w sg (gcells c.gates)) (ho : Sl w so (ints c.outs)) (hv : c.valid)
    (hk : k ≤ 1000) (hst : -1 ≤ st) (hst2 : st < c.vars) :
    Calls Try.prog 79 #[.pointer (some ⟨b, 0, none⟩), .int .i64 k, .int .i64 st, .bool val] w fun e w' => ∃ s cap, e = .returned (.slice s (c.next.length + c.outs.length) cap) ∧ Sl w' s (bools (resV c k st val)) ∧ Below w.heap.size w w' := by
  have HB : Hid (b < w.heap.size) := World.block_lt_of_cell? w _ h.h0
  obtain ⟨f1, f2, f3, f4⟩ := valid_first hv
  obtain ⟨q1, q2, q3, q4, q5⟩ := id hv.lim
  obtain ⟨V, hV⟩ : ∃ V : Nat, c.vars = V := ⟨c.vars.toNat, by omega⟩
  obtain ⟨ni, hni⟩ : ∃ ni : Nat, c.inp = ni := ⟨c.inp.toNat, by omega⟩
  have n4 : ni ≤ 4 := by omega
  rw [hV] at hst2
  have hkpw : (1 : Int) ≤ 2 ^ ni := by have : (0 : Int) < 2 ^ ni := Int.pow_pos (by decide); omega
  have H := Lib.hid (And.intro h (And.intro hn (And.intro hg (And.intro ho (And.intro hv (And.intro hV hni))))))
  have HM : Hid (∀ W, Below w.heap.size w W → CirAt W b c.inp (.slice sn c.next.length cn) (.slice sg c.gates.length cg) (.slice so c.outs.length co)) := fun W hb => ⟨(hb.cell (p := ⟨b, 0, none⟩) HB.out).trans H.out.1.h0, (hb.cell (p := ⟨b, 1, none⟩) HB.out).trans H.out.1.h1, (hb.cell (p := ⟨b, 2, none⟩) HB.out).trans H.out.1.h2, (hb.cell (p := ⟨b, 3, none⟩) HB.out).trans H.out.1.h3⟩
  have hlV : (evalV c k st val).length = V := by
    have h1 := hV; unfold Cir.vars at h1
    rw [evalV_length]; omega
  have hle : valsV st val (stuckB st val (false :: (bitsV k ni ++ bitsV ((k : Int) / 2 ^ c.inp.toNat) c.next.length))) c.gates = evalV c k st val := by
    unfold evalV asgV; rw [hni]; simp
  have HL := Lib.hid (And.intro hlV hle)
  clear h hn hg ho hv hV hni hkpw hlV hle f1 f2 f3 f4
  go_enter Try.func79, Try.ntmps79
  go_wp2_with (first
    | (go_at_call 80; ((refine (latchBits_any _ _ _ _ _ _ _ _ _ H.out.1 ⟨by omega, by omega⟩ (by omega) (by omega) (by omega)).mono ?_); rintro e wa ⟨sa, rfl, ha, hqa⟩; have HA := Lib.hid (And.intro hqa ha); clear ha hqa))
    | (go_at_call 81; ((refine (inputBits_any _ _ _ _ _ _ _ (HM.out _ HA.out.1) ni H.out.2.2.2.2.2.2 (by omega) (by omega) (by omega)).mono ?_); rintro e wb ⟨sb, rfl, hb, hqb⟩; have HB2 := Lib.hid (And.intro (HA.out.1.trans (hqb.mono HA.out.1.size)) (And.intro hb (HA.out.2.mono hqb))); clear hb hqb))
    | (go_at_call 90; ((refine (evaluate_any _ _ _ _ _ _ c sa sb _ _ (bitsV ((k : Int) / 2 ^ c.inp.toNat) c.next.length) (bitsV k ni) st val _ (HM.out _ HB2.out.1) (H.out.2.2.1.mono HB2.out.1) H.out.2.2.2.2.1 HB2.out.2.2 HB2.out.2.1 (bitsV_length _ _) ni (bitsV_length _ _) H.out.2.2.2.2.2.2 V H.out.2.2.2.2.2.1 hst hst2).mono ?_); rintro e we ⟨gv, rfl, hgv, hqe⟩; rw [HL.out.2] at hgv; have HE := Lib.hid (And.intro (HB2.out.1.trans (hqe.mono HB2.out.1.size)) (Sl.toB hgv)); clear hgv hqe))
    | (go_at_call 71; ((refine (roots_any _ _ _ _ _ _ _ _ _ _ (HM.out _ HE.out.1) (H.out.2.1.mono HE.out.1) (H.out.2.2.2.1.mono HE.out.1) (by omega) (by omega)).mono ?_); rintro e wf ⟨sf, cf, rfl, hof, hqf⟩; rw [ints_append] at hof; have HF := Lib.hid (And.intro (HE.out.1.trans (hqf.mono HE.out.1.size)) (And.intro (HE.out.2.mono hqf) (own_sl hof))); clear hof hqf)))
  have hlv := litValues_any (some ⟨gv, 0, none⟩) sf (evalV c k st val) V cf (c.next ++ c.outs) wf HF.out.2.1 HF.out.2.2 (fun x hx => by have := roots_lits H.out.2.2.2.2.1 x hx; rw [HL.out.1]; rw [H.out.2.2.2.2.2.1] at this; exact this) (by simp; omega)
  rw [HL.out.1, List.length_append] at hlv
  refine hlv.mono ?_
  rintro e wz ⟨sz, cz, rfl, hz, hq⟩
  have HZ := Lib.hid (And.intro hz (HF.out.1.trans (hq.mono HF.out.1.size)))
  clear hz hq hlv
  go_wp2_with fail
  go_ret
  exact ⟨sz, cz, rfl, HZ.out.1, HZ.out.2⟩

set_option maxHeartbeats 400000 in
theorem eqBools_any (s t : Option Addr) (xs ys : List Bool) (n cap cap2 : Nat) (w : World) (hs : Sl w s (bools xs)) (ht : Sl w t (bools ys)) (hl : xs.length = n) (hl2 : ys.length = n) (hn : n ≤ 1000) :
    Calls Try.prog 78 #[.slice s n cap, .slice t n cap2] w fun e w' => e = .returned (.bool (decide (xs = ys))) ∧ Drew w w' := by
  have HS := Lib.hid (And.intro hs (And.intro ht (And.intro hl hl2)))
  clear hs ht hl hl2
  go_enter Try.func78, Try.ntmps78
  go_wp2
  go_loopw [13] (fun i wr => ∃ k : Nat, k ≤ n ∧ i = .int .i64 k ∧ xs.take k = ys.take k ∧ Drew w wr) (fun i _ => n - (intOf i).toNat)
  case atStart => exact ⟨0, Nat.zero_le _, rfl, rfl, Drew.refl _⟩
  case round =>
    obtain ⟨k, hk, rfl, htk, hd⟩ := hrel
    have HT : Hid (xs.take k = ys.take k) := htk
    have HD := Lib.hid hd
    clear htk hd
    by_cases hlt : k < n
    · obtain ⟨x, hx⟩ := get_of_lt (l := xs) (k := k) (by have := HS.out.2.2.1; omega)
      obtain ⟨y, hy⟩ := get_of_lt (l := ys) (k := k) (by have := HS.out.2.2.2; omega)
      obtain ⟨b, off, rfl, hbw, hz⟩ := HS.out.1.bool (HD.out.below _) hx
      obtain ⟨b2, off2, rfl, hbw2, hz2⟩ := HS.out.2.1.bool (HD.out.below _) hy
      have HR := Lib.hid (And.intro hx hy)
      clear hx hy
      cases x <;> cases y
      all_goals
        go_wp2
        go_quiet (fail)
        go_wp2
        obtain ⟨hx, hy⟩ := HR.out
        first
          | (go_roundw
             case rel => exact ⟨k + 1, by omega, by go_num, by rw [List.take_add_one, List.take_add_one, HT.out, hx, hy], HD.out.n _⟩
             case measure => simp [intOf]; omega)
          | (go_ret
             refine ⟨ret_bool ?_, HD.out.n _⟩
             symm; rw [decide_eq_false_iff_not]; intro e; subst e; rw [hx] at hy; simp at hy)
    · obtain rfl : k = n := by omega
      have he : decide (xs = ys) = true := by
        have h1 := HT.out
        rw [List.take_of_length_le (by have := HS.out.2.2.1; omega), List.take_of_length_le (by have := HS.out.2.2.2; omega)] at h1
        simpa using h1
      have HE := Lib.hid he
      clear he
      go_wp2
      go_ret
      exact ⟨ret_bool HE.out.symm, HD.out⟩

set_option maxHeartbeats 800000 in
theorem detects_any (b : Nat) (sn sg so : Option Addr) (cn cg co : Nat) (c : Cir) (k : Nat) (p : Int) (val : Bool) (w : World)
    (h : CirAt w b c.inp (.slice sn c.next.length cn) (.slice sg c.gates.length cg) (.slice so c.outs.length co)) (hn : Sl w sn (ints c.next)) (hg : Sl w sg (gcells c.gates)) (ho : Sl w so (ints c.outs)) (hv : c.valid)
    (hk : k ≤ 1000) (hp : 0 ≤ p) (hp2 : p < c.vars) :
    Calls Try.prog 100 #[.pointer (some ⟨b, 0, none⟩), .agg #[.int .i64 p, .bool val], .int .i64 k] w fun e w' => e = .returned (.bool (detV c p val k)) ∧ Below w.heap.size w w' := by
  have HB : Hid (b < w.heap.size) := World.block_lt_of_cell? w _ h.h0
  obtain ⟨q1, q2, q3, q4, q5⟩ := id hv.lim
  have hvf := valid_first hv
  have hn1 : (-1 : Int) < c.vars := by omega
  have HM : Hid (∀ W, Below w.heap.size w W → CirAt W b c.inp (.slice sn c.next.length cn) (.slice sg c.gates.length cg) (.slice so c.outs.length co)) := fun W hb => ⟨(hb.cell (p := ⟨b, 0, none⟩) HB.out).trans h.h0, (hb.cell (p := ⟨b, 1, none⟩) HB.out).trans h.h1, (hb.cell (p := ⟨b, 2, none⟩) HB.out).trans h.h2, (hb.cell (p := ⟨b, 3, none⟩) HB.out).trans h.h3⟩
  have HR : Hid (∀ W (st : Int) (v : Bool), Below w.heap.size w W → -1 ≤ st → st < c.vars → Calls Try.prog 79 #[.pointer (some ⟨b, 0, none⟩), .int .i64 k, .int .i64 st, .bool v] W fun e w' => ∃ s cap, e = .returned (.slice s (c.next.length + c.outs.length) cap) ∧ Sl w' s (bools (resV c k st v)) ∧ Below W.heap.size W w') := fun W st v hb h1 h2 =>
    results_any b sn sg so cn cg co c k st v W (HM.out W hb) (hn.mono hb) (hg.mono hb) (ho.mono hb) hv hk h1 h2
  have hb0 : Below w.heap.size w (w.alloc (.cells #[.int .i64 p, .bool val] 80)) := (Below.refl _ _).alloc (Nat.le_refl _) _
  have hn0 := blk_new w (.cells #[.int .i64 p, .bool val] 80)
  clear h hn hg ho hvf
  have HV := Lib.hid (And.intro hv (And.intro hn1 hp2))
  clear hv hn1 hp2
  go_enter Try.func100, Try.ntmps100
  go_wp2_with fail
  revert hb0 hn0
  generalize w.alloc (.cells #[.int .i64 p, .bool val] 80) = W0
  intro hb0 hn0
  have H0 := Lib.hid (And.intro hb0 hn0)
  have hl0 := blk_lt hn0
  clear hb0 hn0
  refine wp_region_T (fun w' => ∀ o, w'.cell? ⟨w.heap.size, o, none⟩ = #[Value.int .i64 p, Value.bool val][o]?) (.q 0 (.q 1 (.q 3 (.q 4 (.q 5 (.q 6 (.q 7 (.q 8 (.e 2 (.e 9 (.e 10 (.q 11 (.q 12 .nil))))))))))))) (by kernel_rfl) (by kernel_rfl) (by kernel_rfl) (blk_all H0.out.2).1 ?_
  repeat (first | (refine ordt_s (o := ?_) ?_ ?_ ?_; rotate_left 1; (focus ((simp only [zD, zE, zF]) <;> rfl)); (focus rfl); simp only [Act.put, zA, zB, zC]) | (refine ordt_q (o := ?_) (v := ?_) ?_ ?_ ?_ ?_; rotate_left 2; (focus ((simp only [zD, zE, zF]) <;> rfl)); (focus rfl); (focus (intro w' hS; (try dsimp only at hS); go_split_ands; go_simp; (try (with_reducible rfl)))); simp only [Act.put, zA, zB, zC]))
  refine ordt_e ?_
  (refine op_e (o := ?_) ?_ ?_ (fun K hK => ?_); rotate_left 1; (focus ((simp only [zD, zE, zF]) <;> rfl)); (focus rfl); go_simp)
  refine (HR.out _ (-1) false H0.out.1.drew (by omega) HV.out.2.1).mono ?_
  rintro e wa ⟨sa, ca, rfl, ha, hqa⟩
  have hba : Below W0.heap.size W0 wa := (Below.refl _ _).drew.trans hqa
  refine hK.out _ _ (blk_all (blk_below hba hl0 H0.out.2)).1 ?_
  clear hK K hqa
  have HA := Lib.hid (And.intro hba ha)
  clear hba ha
  (try simp only [Act.put, zA, zB, zC])
  refine ordt_e ?_
  (refine op_e (o := ?_) ?_ ?_ (fun K hK => ?_); rotate_left 1; (focus ((simp only [zD, zE, zF]) <;> rfl)); (focus rfl); go_simp)
  refine (HR.out _ p val (H0.out.1.trans (HA.out.1.mono (Nat.le_of_lt hl0))) (by omega) HV.out.2.2).mono ?_
  rintro e wb ⟨sb, cb, rfl, hb, hqb⟩
  have hbb : Below W0.heap.size W0 wb := HA.out.1.trans (hqb.mono HA.out.1.size)
  refine hK.out _ _ (blk_all (blk_below hbb hl0 H0.out.2)).1 ?_
  clear hK K
  have HB3 := Lib.hid (And.intro hbb (And.intro (HA.out.2.mono hqb) hb))
  clear hbb hb hqb
  (try simp only [Act.put, zA, zB, zC])
  refine ordt_e ?_
  (refine op_e (o := ?_) ?_ ?_ (fun K hK => ?_); rotate_left 1; (focus ((simp only [zD, zE, zF]) <;> rfl)); (focus rfl); go_simp)
  refine (eqBools_any sa sb (resV c k (-1) false) (resV c k p val) _ _ _ _ HB3.out.2.1 HB3.out.2.2 (resV_length _ _ _ _) (resV_length _ _ _ _) (by omega)).mono ?_
  rintro e wd ⟨rfl, hd⟩
  have hbd : Below W0.heap.size W0 wd := HB3.out.1.trans (hd.below _)
  refine hK.out _ _ (blk_all (blk_below hbd hl0 H0.out.2)).1 ?_
  clear hK K hd
  have HD := Lib.hid (H0.out.1.trans (hbd.mono (Nat.le_of_lt hl0)))
  clear hbd
  (try simp only [Act.put, zA, zB, zC])
  repeat (first | (refine ordt_s (o := ?_) ?_ ?_ ?_; rotate_left 1; (focus ((simp only [zD, zE, zF]) <;> rfl)); (focus rfl); simp only [Act.put, zA, zB, zC]) | (refine ordt_q (o := ?_) (v := ?_) ?_ ?_ ?_ ?_; rotate_left 2; (focus ((simp only [zD, zE, zF]) <;> rfl)); (focus rfl); (focus (intro w' hS; (try dsimp only at hS); go_split_ands; go_simp; (try (with_reducible rfl)))); simp only [Act.put, zA, zB, zC]))
  refine ordt_nil ?_
  go_wp2_with fail
  go_ret
  exact ⟨ret_bool (by unfold detV; rfl), HD.out⟩

set_option maxHeartbeats 800000 in
theorem findTest_any (b : Nat) (sn sg so : Option Addr) (cn cg co : Nat) (c : Cir) (p : Int) (val : Bool) (w : World)
    (h : CirAt w b c.inp (.slice sn c.next.length cn) (.slice sg c.gates.length cg) (.slice so c.outs.length co)) (hn : Sl w sn (ints c.next)) (hg : Sl w sg (gcells c.gates)) (ho : Sl w so (ints c.outs)) (hv : c.valid)
    (hp : 0 ≤ p) (hp2 : p < c.vars) :
    Calls Try.prog 92 #[.pointer (some ⟨b, 0, none⟩), .agg #[.int .i64 p, .bool val]] w fun e w' => e = .returned (.int .i64 (findN (detV c p val) (asgN c))) ∧ Below w.heap.size w w' := by
  have HB : Hid (b < w.heap.size) := World.block_lt_of_cell? w _ h.h0
  obtain ⟨q1, q2, q3, q4, q5⟩ := id hv.lim
  obtain ⟨n1, n2⟩ := asgN_le hv
  obtain ⟨N, hN⟩ : ∃ N, N = asgN c := ⟨_, rfl⟩
  have HM : Hid (∀ W, Below w.heap.size w W → CirAt W b c.inp (.slice sn c.next.length cn) (.slice sg c.gates.length cg) (.slice so c.outs.length co)) := fun W hb => ⟨(hb.cell (p := ⟨b, 0, none⟩) HB.out).trans h.h0, (hb.cell (p := ⟨b, 1, none⟩) HB.out).trans h.h1, (hb.cell (p := ⟨b, 2, none⟩) HB.out).trans h.h2, (hb.cell (p := ⟨b, 3, none⟩) HB.out).trans h.h3⟩
  have HD : Hid (∀ W (k : Nat), Below w.heap.size w W → k ≤ 1000 → Calls Try.prog 100 #[.pointer (some ⟨b, 0, none⟩), .agg #[.int .i64 p, .bool val], .int .i64 k] W fun e w' => e = .returned (.bool (detV c p val k)) ∧ Below W.heap.size W w') := fun W k hb hk =>
    detects_any b sn sg so cn cg co c k p val W (HM.out W hb) (hn.mono hb) (hg.mono hb) (ho.mono hb) hv hk hp hp2
  have hb0 : Below w.heap.size w (w.alloc (.cells #[.int .i64 p, .bool val] 80)) := (Below.refl _ _).alloc (Nat.le_refl _) _
  have hn0 := blk_new w (.cells #[.int .i64 p, .bool val] 80)
  have e1 : ((2 ^ (c.inp.toNat + c.next.length) : Nat) : Int) = (N : Int) := by rw [hN]; rfl
  rw [← hN] at n1 n2 ⊢
  have E1 := Lib.hid e1
  have H0 := Lib.hid (And.intro hb0 hn0)
  clear h hn hg ho hv hN hb0 hn0 e1
  go_enter Try.func92, Try.ntmps92
  go_wp2_with (go_at_call 77; ((refine (assignments_any _ _ _ _ _ _ _ _ (HM.out _ H0.out.1) (by omega) (by omega)).mono ?_); rintro e w2 ⟨rfl, hd⟩; rw [E1.out]; have HD2 := Lib.hid (And.intro (H0.out.1.trans (hd.below _)) (blk_below (hd.below _) (blk_lt H0.out.2) H0.out.2)); clear hd))
  go_loopw [8] (fun i wr => ∃ k : Nat, k ≤ N ∧ i = .int .i64 k ∧ (∀ y : Nat, y < k → detV c p val y = false) ∧ Below w.heap.size w wr ∧ wr.heap[w.heap.size]? = some (.cells #[.int .i64 p, .bool val] 80 (0, 0))) (fun i _ => N - (intOf i).toNat)
  case atStart => exact ⟨0, Nat.zero_le _, rfl, fun y hy => by omega, HD2.out.1, HD2.out.2⟩
  case round =>
    obtain ⟨k, hk, rfl, hf, hbl, hblk⟩ := hrel
    have cb := (blk_all hblk).1
    have HR := Lib.hid (And.intro hf (And.intro hbl hblk))
    clear hf hbl hblk
    by_cases hlt : k < N
    · obtain ⟨D, hD⟩ : ∃ D, D = detV c p val k := ⟨_, rfl⟩
      have HDk := Lib.hid hD
      clear hD
      cases D
      · go_wp2_with (go_at_call 100; ((refine (HD.out _ k HR.out.2.1 (by omega)).mono ?_); rintro e w3 ⟨rfl, hq⟩; rw [← HDk.out]; have H3 := Lib.hid (And.intro (HR.out.2.1.trans (hq.mono HR.out.2.1.size)) (blk_below hq (blk_lt HR.out.2.2) HR.out.2.2)); clear hq))
        go_roundw
        case rel => exact ⟨k + 1, by omega, by go_num, fun y hy => if e : y = k then e ▸ HDk.out.symm else HR.out.1 y (by omega), H3.out.1, H3.out.2⟩
        case measure => simp [intOf]; omega
      · go_wp2_with (go_at_call 100; ((refine (HD.out _ k HR.out.2.1 (by omega)).mono ?_); rintro e w3 ⟨rfl, hq⟩; rw [← HDk.out]; have H3 := Lib.hid (HR.out.2.1.trans (hq.mono HR.out.2.1.size)); clear hq))
        go_ret
        exact ⟨ret_int (findN_some hlt HDk.out.symm HR.out.1).symm, H3.out⟩
    · obtain rfl : k = N := by omega
      go_wp2_with fail
      go_ret
      exact ⟨ret_int (findN_none HR.out.1).symm, HR.out.2.1⟩

end Go.Proofs.Ytdcjiclonjillaa
