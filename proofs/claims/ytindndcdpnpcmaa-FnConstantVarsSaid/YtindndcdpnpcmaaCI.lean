import Derived.Test.YtindndcdpnpcmaaCD
import Derived.Test.YtindndcdpnpcmaaZ6
import Derived.Test.YtindndcdpnpcmaaBE
import Derived.Test.YtindndcdpnpcmaaCF
import Derived.Test.YtindndcdpnpcmaaR1
namespace Go.Proofs.Ytindndcdpnpcmaa
set_option linter.unusedVariables false
set_option linter.unusedSimpArgs false
open Go.RowKit

/-! The formula of a literal has a model if and only if some assignment makes the literal true. -/

def numL : List Bool → Nat
  | [] => 0
  | b :: bs => (if b then 1 else 0) + 2 * numL bs
theorem numL_lt : ∀ bs : List Bool, numL bs < 2 ^ bs.length
  | [] => by simp [numL]
  | b :: bs => by
    have := numL_lt bs
    unfold numL
    rw [List.length_cons, Nat.pow_succ]
    split <;> omega
theorem numL_bit : ∀ (bs : List Bool) (i : Nat), i < bs.length → (numL bs / 2 ^ i % 2 = 1 ↔ bs.getD i false = true)
  | [], i, h => by simp at h
  | b :: bs, 0, _ => by
    unfold numL
    cases b <;> simp <;> omega
  | b :: bs, i + 1, h => by
    have ih := numL_bit bs i (by simpa using h)
    have e : numL (b :: bs) / 2 ^ (i + 1) = numL bs / 2 ^ i := by
      rw [Nat.pow_succ, Nat.mul_comm, ← Nat.div_div_eq_div_mul]
      congr 1
      show ((if b then 1 else 0) + 2 * numL bs) / 2 = numL bs
      split <;> omega
    rw [e]; simpa using ih
theorem asgV_bit {c : Cir} {ni : Nat} (hi : c.inp = ni) (x i : Nat) (h : i < ni + c.next.length) : (asgV c (x : Int)).getD (1 + i) false = decide (x / 2 ^ i % 2 = 1) := by
  have hb : ∀ y k : Nat, decide ((y : Int) / 2 ^ k % 2 = 1) = decide (y / 2 ^ k % 2 = 1) := fun y k => decide_eq_decide.2 (by
    have : ((y : Int) / 2 ^ k % 2) = ((y / 2 ^ k % 2 : Nat) : Int) := by simp
    rw [this]; omega)
  unfold asgV
  rw [hi, Int.toNat_natCast, Nat.add_comm 1 i, List.getD_cons_succ, List.getD_eq_getElem?_getD]
  by_cases hlt : i < ni
  · rw [List.getElem?_append_left (by rw [bitsV_length]; exact hlt)]
    unfold bitsV
    simp [hlt]
    exact decide_eq_decide.1 (hb x i)
  · rw [List.getElem?_append_right (by rw [bitsV_length]; omega), bitsV_length]
    have e : (x : Int) / 2 ^ ni = ((x / 2 ^ ni : Nat) : Int) := by simp
    rw [e]
    unfold bitsV
    have hl2 : i - ni < c.next.length := by omega
    have e2 : x / 2 ^ ni / 2 ^ (i - ni) = x / 2 ^ i := by
      rw [Nat.div_div_eq_div_mul, ← Nat.pow_add]; congr 2; omega
    simp [hl2]
    have := hb (x / 2 ^ ni) (i - ni)
    rw [e2] at this
    simpa using this
/-- The first N variables of m are those of E. -/
def agr (m : List Int) (E : List Bool) (N : Nat) : Prop := ∀ v, v < N → m.getD (v + 1) 0 = b2i (E.getD v false)
theorem agr_sat {m : List Int} {E : List Bool} {N : Nat} (h : agr m E N) {l : Int} (h0 : 0 ≤ l) (h1 : l / 2 < N) : satN m (dimL l) = litB E l ∧ satN m (-dimL l) = !litB E l := by
  obtain ⟨q, hq⟩ : ∃ q : Nat, l / 2 = q := ⟨(l / 2).toNat, by omega⟩
  have hm := h q (by omega)
  unfold dimL litB satN
  rw [hq, Int.toNat_natCast]
  by_cases e : l % 2 = 1
  · rw [if_pos e, decide_eq_true e]
    rw [show (-(-((q : Int) + 1))).toNat = q + 1 by omega, Int.neg_neg, hm]
    have e1 : decide (0 < -((q : Int) + 1)) = false := decide_eq_false (by omega)
    have e2 : decide (-((q : Int) + 1) < 0) = true := decide_eq_true (by omega)
    have e3 : decide (0 < (q : Int) + 1) = true := decide_eq_true (by omega)
    have e4 : decide ((q : Int) + 1 < 0) = false := decide_eq_false (by omega)
    rw [e1, e2, e3, e4]
    cases E.getD q false <;> exact ⟨rfl, rfl⟩
  · rw [if_neg e, decide_eq_false e]
    rw [show (-(-((q : Int) + 1))).toNat = q + 1 by omega, show ((q : Int) + 1).toNat = q + 1 by omega, hm]
    have e1 : decide (0 < -((q : Int) + 1)) = false := decide_eq_false (by omega)
    have e2 : decide (-((q : Int) + 1) < 0) = true := decide_eq_true (by omega)
    have e3 : decide (0 < (q : Int) + 1) = true := decide_eq_true (by omega)
    have e4 : decide ((q : Int) + 1 < 0) = false := decide_eq_false (by omega)
    rw [e1, e2, e3, e4]
    cases E.getD q false <;> exact ⟨rfl, rfl⟩
theorem satN_at {m : List Int} (hm : WV.tot m) (q : Nat) (h1 : 1 ≤ q) (h2 : q < 26) : (satN m (q : Int) = true ∧ satN m (-(q : Int)) = false ∧ m.getD q 0 = 1) ∨ (satN m (q : Int) = false ∧ satN m (-(q : Int)) = true ∧ m.getD q 0 = -1) := by
  have hq := hm.2 q h1 h2
  have ht := hm.1.tri q
  unfold satN
  rw [Int.neg_neg, Int.toNat_natCast]
  have e1 : decide (0 < (q : Int)) = true := decide_eq_true (by omega)
  have e2 : decide ((q : Int) < 0) = false := decide_eq_false (by omega)
  have e3 : decide (0 < -(q : Int)) = false := decide_eq_false (by omega)
  have e4 : decide (-(q : Int) < 0) = true := decide_eq_true (by omega)
  rw [e1, e2, e3, e4]
  rcases ht with h | h | h
  · exact absurd h hq
  · exact .inl ⟨by rw [h]; rfl, by rw [h]; rfl, h⟩
  · exact .inr ⟨by rw [h]; rfl, by rw [h]; rfl, h⟩
theorem agr_gates {c : Cir} (hv : c.valid) {m : List Int} (hm : WV.tot m) {x : Nat} (hx : ∀ i, i < c.inp.toNat + c.next.length → m.getD (i + 2) 0 = b2i (decide (x / 2 ^ i % 2 = 1))) :
    ∀ k, k ≤ c.gates.length → holdsV m (tsL c k) = true → agr m (evalV c (x : Int) (-1) false) (c.first.toNat + k) := by
  obtain ⟨q1, q2, q3, q4, q5⟩ := hv.lim
  have hl := evalV_length c (x : Int) (-1) false
  have eF : c.first = 1 + c.inp + c.next.length := rfl
  intro k
  induction k with
  | zero =>
    intro _ hh v hvl
    obtain ⟨r, hr⟩ := valsV_pre (-1) false (asgV c (x : Int)) c.gates
    have hal := asgV_length c (x : Int)
    rw [evalV_no, hr]
    have hpre : ((asgV c (x : Int)) ++ r).getD v false = (asgV c (x : Int)).getD v false := by
      rw [List.getD_eq_getElem?_getD, List.getD_eq_getElem?_getD, List.getElem?_append_left (by omega)]
    rw [hpre]
    cases v with
    | zero =>
      have e0 : (asgV c (x : Int)).getD 0 false = false := rfl
      rw [e0]
      obtain ⟨n, hn, hs⟩ := holdsV_mem hh (c := [-1]) (by simp [tsL])
      simp at hn; subst hn
      rcases satN_at hm 1 (by omega) (by omega) with ⟨_, h2, _⟩ | ⟨_, _, h3⟩
      · rw [show -((1 : Nat) : Int) = -1 from rfl] at h2; rw [h2] at hs; cases hs
      · rw [h3]; rfl
    | succ i =>
      rw [Nat.add_comm i 1, asgV_bit (ni := c.inp.toNat) (by omega) x i (by omega)]
      have := hx i (by omega)
      rw [show 1 + i + 1 = i + 2 by omega]; exact this
  | succ k ih =>
    intro hk hh
    obtain ⟨g, hg⟩ := get_of_lt (l := c.gates) (k := k) (by omega)
    obtain ⟨⟨a0, a2⟩, b0, b2⟩ := valid_gate hv hg
    have hrow := tsL_succ hg (n := ((c.first.toNat + k + 1 : Nat) : Int)) (by omega)
    rw [hrow] at hh
    unfold holdsV at hh
    rw [List.all_append, Bool.and_eq_true] at hh
    have ha := ih (by omega) hh.1
    have hE := evalV_gate hv (x : Int) hg
    obtain ⟨F, hF⟩ : ∃ F : Nat, c.first = F := ⟨c.first.toNat, by omega⟩
    rw [hF, Int.toNat_natCast] at ha hh ⊢
    have hE2 : (evalV c (x : Int) (-1) false).getD (F + k) false = (litB (evalV c (x : Int) (-1) false) g.a && litB (evalV c (x : Int) (-1) false) g.b) := by
      rw [← hE, hF]
      unfold litB
      rw [show (2 * ((F : Int) + (k : Int)) / 2).toNat = F + k by omega, show decide (2 * ((F : Int) + (k : Int)) % 2 = 1) = false by rw [decide_eq_false_iff_not]; omega]
      simp
    obtain ⟨s1, s2⟩ := agr_sat ha a0 (by omega)
    obtain ⟨s3, s4⟩ := agr_sat ha b0 (by omega)
    have hrows := hh.2
    unfold gRows at hrows
    simp only [List.all_cons, List.all_nil, List.any_cons, List.any_nil, Bool.or_false, Bool.and_true, s1, s2, s3, s4] at hrows
    intro v hvl
    by_cases e : v < F + k
    · exact ha v e
    · obtain rfl : v = F + k := by omega
      rw [hE2]
      rcases satN_at hm (F + k + 1) (by omega) (by omega) with ⟨h1, h2, h3⟩ | ⟨h1, h2, h3⟩
      · rw [h1, h2] at hrows; rw [h3]
        revert hrows
        cases litB (evalV c (x : Int) (-1) false) g.a <;> cases litB (evalV c (x : Int) (-1) false) g.b <;> simp [b2i]
      · rw [h1, h2] at hrows; rw [h3]
        revert hrows
        cases litB (evalV c (x : Int) (-1) false) g.a <;> cases litB (evalV c (x : Int) (-1) false) g.b <;> simp [b2i]
def fillV (vs : List Int) : List Int := 0 :: vs.tail.map fun x => if x = 0 then -1 else x
theorem fillV_get {vs : List Int} (h : WV vs) (i : Nat) (h1 : 1 ≤ i) (h2 : i < 26) : (fillV vs).getD i 0 = if vs.getD i 0 = 0 then -1 else vs.getD i 0 := by
  have hl := h.len
  obtain ⟨j, rfl⟩ : ∃ j, i = j + 1 := ⟨i - 1, by omega⟩
  obtain ⟨y, hy⟩ := get_of_lt (l := vs) (k := j + 1) (by omega)
  unfold fillV
  rw [List.getD_cons_succ, List.getD_eq_getElem?_getD, List.getD_eq_getElem?_getD, List.getElem?_map, List.getElem?_tail, hy]
  rfl
theorem fillV_tot {vs : List Int} (h : WV vs) : WV.tot (fillV vs) := by
  have hl := h.len
  have hfl : (fillV vs).length = 26 := by simp [fillV]; omega
  refine ⟨⟨hfl, rfl, fun i => ?_⟩, fun i h1 h2 => ?_⟩
  · by_cases h1 : 1 ≤ i
    · by_cases h2 : i < 26
      · rw [fillV_get h i h1 h2]
        have := h.tri i
        split <;> omega
      · left; rw [List.getD_eq_getElem?_getD, List.getElem?_eq_none (by omega)]; rfl
    · obtain rfl : i = 0 := by omega
      exact .inl rfl
  · rw [fillV_get h i h1 h2]; split <;> omega
theorem fillV_holds {vs : List Int} {F : List (List Int)} (h : WV vs) (h25 : ∀ r ∈ F, ∀ n ∈ r, lit25 n) (hh : holdsV vs F = true) : holdsV (fillV vs) F = true := by
  refine List.all_eq_true.2 fun c hc => List.any_eq_true.2 ?_
  obtain ⟨n, hn, hs⟩ := holdsV_mem hh hc
  have h5 := h25 c hc n hn
  refine ⟨n, hn, ?_⟩
  rw [satN_litV h5.1] at hs ⊢
  obtain ⟨v, v1, v2, v3⟩ := setL_var h5
  have hg := fillV_get h v v1 v2
  simp only [decide_eq_true_eq] at hs ⊢
  unfold litV at hs ⊢
  rcases v3 with ⟨w, rfl⟩ | ⟨w, rfl⟩
  · rw [if_pos w, Int.neg_neg, Int.toNat_natCast] at hs ⊢
    rw [hg, if_neg (by omega)]; exact hs
  · rw [if_neg (by omega), Int.toNat_natCast] at hs ⊢
    rw [hg, if_neg (by omega)]; exact hs
theorem vI_wv (E : List Bool) (h : E.length ≤ 25) : WV (vI E E.length) := by
  refine ⟨vI_length E _ (Nat.le_refl _) h, rfl, fun i => ?_⟩
  cases i with
  | zero => exact .inl rfl
  | succ i =>
    by_cases hi : i < E.length
    · obtain ⟨b, hb⟩ := get_of_lt hi
      rw [List.getD_eq_getElem?_getD, vI_get hb]
      cases b
      · exact .inr (.inr rfl)
      · exact .inr (.inl rfl)
    · left
      unfold vI
      rw [List.getD_cons_succ, List.getD_eq_getElem?_getD, List.getElem?_append_right (by simp; omega), List.getElem?_replicate]
      split <;> rfl
theorem zero_get (i : Nat) : zero26.getD i 0 = 0 := by
  unfold zero26; rw [List.getD_eq_getElem?_getD, List.getElem?_replicate]; split <;> rfl
/-- THE LAW. -/
theorem cb_iff {c : Cir} {l : Int} (h : tsOk c l) {o : Option (List Int)} (ho : satP (tsR c l) o) : o.isSome = true ↔ ∃ x, x < asgN c ∧ litF c l x = true := by
  have hv := c.validB_iff.1 h.1
  obtain ⟨q1, q2, q3, q4, q5⟩ := id hv.lim
  have eF : c.first = 1 + c.inp + c.next.length := rfl
  have eV : c.vars = 1 + c.inp + c.next.length + c.gates.length := by unfold Cir.vars; rfl
  obtain ⟨l0, l1⟩ := h.2
  have hr : isRes (tsR c l) zero26 o := by
    rcases ho with ⟨_, h⟩ | ⟨h, _⟩
    · exact h
    · rw [tsR_clauses] at h; cases h
  constructor
  · intro hs
    cases o with
    | none => cases hs
    | some m =>
      obtain ⟨hm1, -, hm3⟩ := hr.1
      rw [tsR_yes h] at hm3
      have hall := hm3
      unfold holdsV at hall
      rw [List.all_append, Bool.and_eq_true] at hall
      obtain ⟨bs, hbs⟩ : ∃ bs : List Bool, bs = (List.range (c.inp.toNat + c.next.length)).map fun i => decide (m.getD (i + 2) 0 = 1) := ⟨_, rfl⟩
      have hbl : bs.length = c.inp.toNat + c.next.length := by rw [hbs]; simp
      have hxb : ∀ i, i < c.inp.toNat + c.next.length → m.getD (i + 2) 0 = b2i (decide (numL bs / 2 ^ i % 2 = 1)) := fun i hi => by
        have e1 := numL_bit bs i (by omega)
        have e2 : bs.getD i false = decide (m.getD (i + 2) 0 = 1) := by rw [hbs, List.getD_eq_getElem?_getD]; simp [hi]
        have h3 := hm1.1.tri (i + 2)
        have h4 := hm1.2 (i + 2) (by omega) (by omega)
        rw [e2] at e1
        by_cases e : m.getD (i + 2) 0 = 1
        · rw [decide_eq_true (e1.2 (by simpa using e)), e]; rfl
        · rw [decide_eq_false (fun hh => e (by simpa using e1.1 hh))]
          show _ = (-1 : Int); omega
      have ha := agr_gates hv hm1 hxb c.gates.length (Nat.le_refl _) hall.1
      have hlast := (agr_sat ha l0 (by omega)).1
      refine ⟨numL bs, ?_, ?_⟩
      · have := numL_lt bs
        rw [hbl] at this; exact this
      · show litB _ _ = true
        rw [← hlast]
        have := hall.2
        simpa using this
  · intro ⟨x, hx, hl⟩
    have hh := tsR_holds h (x : Int)
    rw [show litB (evalV c (x : Int) (-1) false) l = true from hl] at hh
    have hE := evalV_length c (x : Int) (-1) false
    have hw := vI_wv (evalV c (x : Int) (-1) false) (by omega)
    have hf := fillV_holds hw (tsR_lits c l) hh
    cases o with
    | some m => rfl
    | none => exact absurd ⟨fillV_tot hw, fun i _ _ h0 => absurd (zero_get i) h0, hf⟩ (hr _)
/-- Whether a literal can be true. -/
def cbR (c : Cir) (l : Int) : Bool := decide (tsOk c l) && (List.range (asgN c)).any (litF c l)
theorem cbR_some {c : Cir} {l : Int} (h : tsOk c l) {o : Option (List Int)} (ho : satP (tsR c l) o) : o.isSome = cbR c l := by
  have := cb_iff h ho
  unfold cbR
  rw [decide_eq_true h, Bool.true_and, Bool.eq_iff_iff, this, List.any_eq_true]
  simp
theorem cbR_no {c : Cir} {l : Int} (h : ¬ tsOk c l) : cbR c l = false := by unfold cbR; rw [decide_eq_false h]; rfl

/-! CanBeTrue, both. -/

set_option maxHeartbeats 1600000 in
theorem CanBeTrue_i (v : Value) (c : Cir) (l : Int) (w : World) (h : CirV w v c) :
    Calls Try.prog 37 #[v, .int .i64 l] w fun e w' => e = .returned (.bool (cbR c l)) ∧ Below w.heap.size w w' := by
  have HC : Hid (∀ w', Below w.heap.size w w' → CirV w' v c) := fun w' hb => h.mono hb
  obtain ⟨sn, cn, sg, cg, so, co, rfl, h1, h2, h3, hl1, hl2, hl3⟩ := h
  have hL : Below w.heap.size w (w.alloc (.cells #[.int .i64 c.inp, .slice sn c.next.length cn, .slice sg c.gates.length cg, .slice so c.outs.length co] 29)) := by go_grown
  have hN := blk_new w (.cells #[.int .i64 c.inp, .slice sn c.next.length cn, .slice sg c.gates.length cg, .slice so c.outs.length co] 29)
  have HL := Lib.hid (And.intro hL (And.intro hN h2))
  clear hL hN h1 h2 h3
  cases hv : c.validB
  · have e : cbR c l = false := cbR_no fun h => by rw [h.1] at hv; cases hv
    rw [e]
    have HE := Lib.hid hv
    clear hv e
    go_enter Try.func37, Try.ntmps37
    go_wp2_with (go_at_call 56; ((with_reducible refine (CircuitValid_i _ _ _ (HC.out _ HL.out.1)).mono ?_); rintro e w1 ⟨rfl, hq⟩; have HQ := Lib.hid hq; clear hq; rw [HE.out]))
    go_ret
    exact ⟨rfl, HL.out.1.trans (HQ.out.mono (by simp))⟩
  · have hval := c.validB_iff.1 hv
    obtain ⟨f1, f2, f3, f4⟩ := valid_first hval
    obtain ⟨q1, q2, q3, q4, q5⟩ := id hval.lim
    have eC : c.first = 1 + c.inp + c.next.length := rfl
    obtain ⟨V, hV⟩ : ∃ V : Nat, c.vars = V := ⟨c.vars.toNat, by omega⟩
    have e2 : 1 + c.inp + (c.next.length : Int) + (c.gates.length : Int) = (V : Int) := hV
    have v22 : V ≤ 22 := by omega
    have HH := Lib.hid (And.intro hv (And.intro hV e2))
    clear hv hval f1 f2 f3 f4 eC hV e2
    by_cases hlit : 0 ≤ l ∧ l < 2 * (V : Int)
    · have hok : tsOk c l := ⟨HH.out.1, by rw [HH.out.2.1]; exact hlit⟩
      have HE := Lib.hid (And.intro hok (decide_eq_true hlit))
      obtain ⟨R, hR⟩ : ∃ R, R = tsR c l := ⟨_, rfl⟩
      have hRl : R.length ≤ 44 := by rw [hR]; exact (tsR_small c l).1
      have HR := Lib.hid (And.intro hR (show ∀ r ∈ R, r.length ≤ 1048576 from fun r hr => by rw [hR] at hr; exact Nat.le_trans ((tsR_small c l).2 r hr) (by decide)))
      have k1 : -9223372036854775808 ≤ l := by omega
      have k2 : l ≤ 9223372036854775807 := by omega
      clear hlit hok hR
      obtain ⟨B, hB⟩ : ∃ B, B = cbR c l := ⟨_, rfl⟩
      rw [← hB]
      have HB := Lib.hid hB
      clear hB
      go_enter Try.func37, Try.ntmps37
      go_wp2_with (first
        | (go_at_call 56; ((with_reducible refine (CircuitValid_i _ _ _ (HC.out _ HL.out.1)).mono ?_); rintro e w1 ⟨rfl, hq⟩; have HQ := Lib.hid (And.intro (blk_below hq (blk_lt HL.out.2.1) HL.out.2.1) (HL.out.1.trans (hq.mono (by simp)))); clear hq; rw [HH.out.1]))
        | (go_at_call 78; ((refine (vars_any _ _ _ _ _ _ _ _ _ _ (CirAt.of_blk HQ.out.1) (by omega) (by omega) (by omega)).mono ?_); rintro e w3 ⟨rfl, hd⟩; rw [HH.out.2.2]; have HQ := Lib.hid (And.intro (blk_below (hd.below _) (blk_lt HQ.out.1) HQ.out.1) (HQ.out.2.trans (hd.below _))); have ca := (blk_all HQ.out.1).1; clear hd))
        | (go_at_call 82; ((refine (isLit_any _ _ _ (by omega)).mono ?_); rintro e w4 ⟨rfl, rfl⟩; rw [HE.out.2]))
        | (go_at_call 84; ((with_reducible refine (Tseitin_i _ c l _ (HC.out _ HQ.out.2) ⟨k1, k2⟩).mono ?_); rintro e w5 ⟨s5, c5, bs, rfl, h1, hq⟩; rw [← HR.out.1] at h1 ⊢; have H5 := Lib.hid (And.intro h1.sls (HQ.out.2.trans (hq.mono HQ.out.2.size))); clear h1 hq ca))
        | (go_at_call 83; ((with_reducible refine (Satisfy_i _ _ R _ H5.out.1 (by omega) HR.out.2).mono ?_); rintro e w6 ⟨s6, c6, o, rfl, -, a2, hq⟩; have H6 := Lib.hid (And.intro a2 (H5.out.2.trans (hq.mono H5.out.2.size))); clear a2 hq)))
      have ho := H6.out.1
      rw [HR.out.1] at ho
      have he := (cbR_some HE.out.1 ho).trans HB.out.symm
      go_ret
      exact ⟨ret_bool he, H6.out.2⟩
    · have e : cbR c l = false := cbR_no fun h => hlit (by have := h.2; rw [HH.out.2.1] at this; exact this)
      have HE := Lib.hid (decide_eq_false hlit)
      rw [e]
      clear e hlit
      go_enter Try.func37, Try.ntmps37
      go_wp2_with (first
        | (go_at_call 56; ((with_reducible refine (CircuitValid_i _ _ _ (HC.out _ HL.out.1)).mono ?_); rintro e w1 ⟨rfl, hq⟩; have HQ := Lib.hid (And.intro (blk_below hq (blk_lt HL.out.2.1) HL.out.2.1) (HL.out.1.trans (hq.mono (by simp)))); clear hq; rw [HH.out.1]))
        | (go_at_call 78; ((refine (vars_any _ _ _ _ _ _ _ _ _ _ (CirAt.of_blk HQ.out.1) (by omega) (by omega) (by omega)).mono ?_); rintro e w3 ⟨rfl, hd⟩; rw [HH.out.2.2]; have HQ := Lib.hid (And.intro (blk_below (hd.below _) (blk_lt HQ.out.1) HQ.out.1) (HQ.out.2.trans (hd.below _))); have ca := (blk_all HQ.out.1).1; clear hd))
        | (go_at_call 82; ((refine (isLit_any _ _ _ (by omega)).mono ?_); rintro e w4 ⟨rfl, rfl⟩; rw [HE.out])))
      go_ret
      exact ⟨rfl, HQ.out.2⟩

end Go.Proofs.Ytindndcdpnpcmaa
