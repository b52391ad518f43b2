import Derived.Test.YtjecchljhdfjdaaZZ2ON
import Derived.Test.YtjecchljhdfjdaaZZ2OK
import Derived.Test.YtjecchljhdfjdaaZZ2S1
namespace Go.Proofs.Ytjecchljhdfjdaa
set_option linter.unusedVariables false
set_option linter.unusedSimpArgs false
open Go.RowKit

/-! Part of the proof of one law. -/

/-- The places of the first k variables. -/
def plV (c : Cir) (k : Nat) : List Int := ((bldP c false (k - c.first.toNat)).2.map (· / 2)).take k

theorem bldP_snoc (c : Cir) (k : Nat) {g : Gt} (h : c.gates[k]? = some g) : (bldP c false (k + 1)).2 = (bldP c false k).2 ++ [if (usedL c).getD k false then 2 * (c.first + (bldP c false k).1.length) else 0] := by
  rw [bldP_succ h]
  unfold bStep
  by_cases hu : (usedL c).getD k false = true
  · rw [if_pos hu, if_neg (by simp), if_pos hu]
  · rw [if_neg hu, if_neg hu]

theorem bldP_gs (c : Cir) (k : Nat) {g : Gt} (h : c.gates[k]? = some g) : (bldP c false (k + 1)).1 = if (usedL c).getD k false then (bldP c false k).1 ++ [⟨mapB (bldP c false k).2 g.a, mapB (bldP c false k).2 g.b⟩] else (bldP c false k).1 := by
  rw [bldP_succ h]
  unfold bStep
  by_cases hu : (usedL c).getD k false = true
  · rw [if_pos hu, if_neg (by simp), if_pos hu]
  · rw [if_neg hu, if_neg hu]

theorem bldP_even (c : Cir) : ∀ (k : Nat), ∀ x ∈ (bldP c false k).2, x % 2 = 0
  | 0, x, hx => by
    obtain ⟨i, _, rfl⟩ := List.mem_map.1 (show x ∈ (List.range c.first.toNat).map fun (i : Nat) => 2 * (i : Int) from hx)
    omega
  | k + 1, x, hx => by
    cases h : c.gates[k]? with
    | none =>
      have e : bldP c false (k + 1) = bldP c false k := by
        show (match c.gates[k]? with | some g => _ | none => _) = _
        rw [h]
      rw [e] at hx
      exact bldP_even c k x hx
    | some g =>
      rw [bldP_snoc c k h] at hx
      rcases List.mem_append.1 hx with hx | hx
      · exact bldP_even c k x hx
      · simp at hx; subst hx; split <;> omega

theorem bldP_pre (c : Cir) (k : Nat) : ∀ (d : Nat), ∃ ys, (bldP c false (k + d)).2 = (bldP c false k).2 ++ ys
  | 0 => ⟨[], by simp⟩
  | d + 1 => by
    obtain ⟨ys, hy⟩ := bldP_pre c k d
    cases h : c.gates[k + d]? with
    | none =>
      have e : bldP c false (k + d + 1) = bldP c false (k + d) := by
        show (match c.gates[k + d]? with | some g => _ | none => _) = _
        rw [h]
      exact ⟨ys, by rw [show k + (d + 1) = k + d + 1 by omega, e, hy]⟩
    | some g => exact ⟨_, by rw [show k + (d + 1) = k + d + 1 by omega, bldP_snoc c _ h, hy, List.append_assoc]⟩

theorem plB_map {m : List Int} (hm : ∀ x ∈ m, x % 2 = 0) (l : Int) : plB (m.map (· / 2)) l = mapB m l := by
  unfold plB mapB xrb
  rw [List.getD_eq_getElem?_getD, List.getD_eq_getElem?_getD, List.getElem?_map]
  cases h : m[(l / 2).toNat]? with
  | none => simp
  | some x =>
    have := hm x (List.mem_of_getElem? h)
    simp
    omega

theorem mapB_pre {m ys : List Int} {l : Int} (h : (l / 2).toNat < m.length) : mapB (m ++ ys) l = mapB m l := by
  unfold mapB
  rw [List.getD_eq_getElem?_getD, List.getD_eq_getElem?_getD, List.getElem?_append_left h]

def fltP (f : Int → Int) (c : Cir) : Nat → List Gt
  | 0 => []
  | k + 1 => match c.gates[k]? with
    | some g => if (usedL c).getD k false then fltP f c k ++ [⟨f g.a, f g.b⟩] else fltP f c k
    | none => fltP f c k

theorem fltP_some {f : Int → Int} {c : Cir} {k : Nat} {g : Gt} {x : Bool} (h : c.gates[k]? = some g) (hx : (usedL c)[k]? = some x) : fltP f c (k + 1) = if x then fltP f c k ++ [⟨f g.a, f g.b⟩] else fltP f c k := by
  have e : (usedL c).getD k false = x := by rw [List.getD_eq_getElem?_getD, hx]; rfl
  show (match c.gates[k]? with | some g => _ | none => _) = _
  rw [h]
  show (if (usedL c).getD k false then _ else _) = _
  rw [e]

theorem fltP_len (f : Int → Int) (c : Cir) : ∀ (k : Nat), (fltP f c k).length ≤ k
  | 0 => by simp [fltP]
  | k + 1 => by
    have ih := fltP_len f c k
    unfold fltP
    split
    · split
      · simp; omega
      · omega
    · omega

theorem fltP_eq {c : Cir} (hv : c.wide) {f : Int → Int} (hf : ∀ l, f l = mapB (bldP c false c.gates.length).2 l) : ∀ (k : Nat), k ≤ c.gates.length → fltP f c k = (bldP c false k).1
  | 0, _ => rfl
  | k + 1, hk => by
    obtain ⟨g, hg⟩ := get_of_lt (l := c.gates) (k := k) (by omega)
    have hp := gatesP_at hv.gates hg
    have ho := bldP_ok hv false k (by omega)
    have hm : ∀ l, litP l (c.first + k) → f l = mapB (bldP c false k).2 l := fun l hl => by
      obtain ⟨ys, hy⟩ := bldP_pre c k (c.gates.length - k)
      rw [show k + (c.gates.length - k) = c.gates.length by omega] at hy
      rw [hf, hy, mapB_pre (by have := ho.mlen; unfold litP at hl; omega)]
    show (match c.gates[k]? with | some g => _ | none => _) = _
    rw [bldP_gs c k hg, hg, ← fltP_eq hv hf k (by omega)]
    show (if (usedL c).getD k false then fltP f c k ++ [⟨f g.a, f g.b⟩] else fltP f c k) = _
    rw [hm _ hp.1, hm _ hp.2]

/-- The function of the literals that pruned uses. -/
def plF (c : Cir) : Int → Int := plB (plV c c.vars.toNat)

theorem plV_len {c : Cir} (hv : c.wide) {k : Nat} (hk : k ≤ c.vars.toNat) : (plV c k).length = k := by
  have hl := hv.lim.1
  have e1 : c.first = 1 + c.inp + c.next.length := rfl
  have e2 : c.vars = c.first + c.gates.length := rfl
  have ho := (bldP_ok hv false (k - c.first.toNat) (by omega)).mlen
  unfold plV
  rw [List.length_take, List.length_map]
  omega

theorem plF_eq {c : Cir} (hv : c.wide) (l : Int) : plF c l = mapB (bldP c false c.gates.length).2 l := by
  have hl := hv.lim.1
  have e1 : c.first = 1 + c.inp + c.next.length := rfl
  have e2 : c.vars = c.first + c.gates.length := rfl
  have ho := (bldP_ok hv false c.gates.length (Nat.le_refl _)).mlen
  unfold plF plV
  rw [show c.vars.toNat - c.first.toNat = c.gates.length by omega, List.take_of_length_le (by rw [List.length_map]; omega)]
  exact plB_map (bldP_even c _) l

theorem plV_lo {c : Cir} (hv : c.wide) {k : Nat} (hk : k < c.first.toNat) : plV c (k + 1) = plV c k ++ [(k : Int)] ∧ (bldP c false (k + 1 - c.first.toNat)).1 = (bldP c false (k - c.first.toNat)).1 := by
  have e0 : k + 1 - c.first.toNat = 0 := by omega
  have e1 : k - c.first.toNat = 0 := by omega
  unfold plV
  rw [e0, e1]
  refine ⟨?_, rfl⟩
  rw [List.take_add_one]
  congr 1
  show (((evE c.first.toNat).map (· / 2))[k]?).toList = _
  unfold evE
  rw [List.map_map, List.getElem?_map, List.getElem?_range hk]
  simp

theorem plV_hi {c : Cir} (hv : c.wide) {i : Nat} (hi : i < c.gates.length) {x : Bool} (hx : (usedL c)[i]? = some x) : plV c (c.first.toNat + i + 1) = plV c (c.first.toNat + i) ++ [if x then c.first + (bldP c false i).1.length else 0] ∧ ((bldP c false (c.first.toNat + i + 1 - c.first.toNat)).1.length : Int) = (bldP c false (c.first.toNat + i - c.first.toNat)).1.length + (if x then 1 else 0) := by
  obtain ⟨g, hg⟩ := get_of_lt hi
  have hl := hv.lim.1
  have e1 : c.first = 1 + c.inp + c.next.length := rfl
  have ho := (bldP_ok hv false i (by omega)).mlen
  have ho1 := (bldP_ok hv false (i + 1) (by omega)).mlen
  have ex : (usedL c).getD i false = x := by rw [List.getD_eq_getElem?_getD, hx]; rfl
  unfold plV
  rw [show c.first.toNat + i + 1 - c.first.toNat = i + 1 by omega, show c.first.toNat + i - c.first.toNat = i by omega]
  refine ⟨?_, ?_⟩
  · rw [List.take_of_length_le (by rw [List.length_map]; omega), List.take_of_length_le (by rw [List.length_map]; omega), bldP_snoc c i hg, List.map_append, ex]
    congr 1
    cases x <;> simp
  · rw [bldP_gs c i hg, ex]
    cases x <;> simp

theorem pruned_eq {c : Cir} (hv : c.wide) : (⟨c.inp, c.next.map (plF c), fltP (plF c) c c.gates.length, c.outs.map (plF c)⟩ : Cir) = buildC false c := by
  unfold buildC
  rw [fltP_eq hv (plF_eq hv) _ (Nat.le_refl _), show plF c = mapB (bldP c false c.gates.length).2 from funext (plF_eq hv)]

/-- The places array in round k. -/
def plA (c : Cir) (k : Nat) : List Int := plV c k ++ List.replicate (c.vars.toNat - k) 0

theorem plA_len {c : Cir} (hv : c.wide) {k : Nat} (hk : k ≤ c.vars.toNat) : (plA c k).length = c.vars.toNat := by
  unfold plA; rw [List.length_append, plV_len hv hk, List.length_replicate]; omega

theorem plA_zero (c : Cir) : plA c 0 = List.replicate c.vars.toNat 0 := by unfold plA plV; simp

theorem plA_full (c : Cir) : plA c c.vars.toNat = plV c c.vars.toNat := by unfold plA; simp

theorem plA_set {c : Cir} (hv : c.wide) {k : Nat} {x : Int} (hk : k < c.vars.toNat) (h : plV c (k + 1) = plV c k ++ [x]) : plA c (k + 1) = (plA c k).set k x := by
  unfold plA
  have hl := plV_len hv (show k ≤ c.vars.toNat by omega)
  rw [h, List.set_append, if_neg (by omega), hl, Nat.sub_self, show c.vars.toNat - k = (c.vars.toNat - (k + 1)) + 1 by omega, List.replicate_succ, List.set_cons_zero, List.append_assoc]
  rfl

theorem plA_keep {c : Cir} {k : Nat} (hk : k < c.vars.toNat) (h : plV c (k + 1) = plV c k ++ [0]) : plA c (k + 1) = plA c k := by
  unfold plA
  rw [h, show c.vars.toNat - k = (c.vars.toNat - (k + 1)) + 1 by omega, List.replicate_succ, List.append_assoc]
  rfl

theorem plA_mem {c : Cir} (hv : c.wide) {k : Nat} : ∀ x ∈ plA c k, 0 ≤ x ∧ x ≤ 300 := fun x hx => by
  have hl := hv.lim
  have e1 : c.first = 1 + c.inp + c.next.length := rfl
  rcases List.mem_append.1 hx with hx | hx
  · obtain ⟨y, hy, rfl⟩ := List.mem_map.1 (List.mem_of_mem_take hx)
    by_cases hk : k - c.first.toNat ≤ c.gates.length
    · have ho := bldP_ok hv false _ hk
      have h1 := ho.lits y hy
      have h2 := ho.glen
      unfold litP at h1
      obtain ⟨q1, q2, q3, q4, q5⟩ := hl
      omega
    · have : ∀ d, bldP c false (c.gates.length + d) = bldP c false c.gates.length := fun d => by
        induction d with
        | zero => rfl
        | succ d ih =>
          show (match c.gates[c.gates.length + d]? with | some g => _ | none => _) = _
          rw [List.getElem?_eq_none (by omega)]
          exact ih
      have e := this (k - c.first.toNat - c.gates.length)
      rw [show c.gates.length + (k - c.first.toNat - c.gates.length) = k - c.first.toNat by omega] at e
      rw [e] at hy
      have ho := bldP_ok hv false _ (Nat.le_refl c.gates.length)
      have h1 := ho.lits y hy
      have h2 := ho.glen
      unfold litP at h1
      obtain ⟨q1, q2, q3, q4, q5⟩ := hl
      omega
  · rw [List.mem_replicate] at hx; omega

/-! pruned. -/

set_option maxRecDepth 100000 in
set_option maxHeartbeats 3200000 in
theorem pruned_any (b : Nat) (sn sg so : Option Addr) (cn cg co : Nat) (c : Cir) (w : World) (h : CirAt w b c.inp (.slice sn c.next.length cn) (.slice sg c.gates.length cg) (.slice so c.outs.length co)) (hn : Sl w sn (ints c.next)) (hg : Sl w sg (gcells c.gates)) (ho : Sl w so (ints c.outs)) (hv : c.wide) :
    Calls Try.prog 74 #[.pointer (some ⟨b, 0, none⟩)] w fun e w' => ∃ vn vg vo, e = .returned (.agg #[.int .i64 c.inp, vn, vg, vo]) ∧ CirOwn w' w.heap.size (buildC false c) vn vg vo ∧ Below w.heap.size w w' := by
  have HBl : Hid (b < w.heap.size) := World.block_lt_of_cell? w _ h.h0
  obtain ⟨q1, q2, q3, q4, q5⟩ := id hv.lim
  obtain ⟨F, hF⟩ : ∃ F : Nat, 1 + c.inp + (c.next.length : Int) = F := ⟨(1 + c.inp + (c.next.length : Int)).toNat, by omega⟩
  obtain ⟨n, hnn⟩ : ∃ n, n = c.gates.length := ⟨_, rfl⟩
  obtain ⟨V, hV⟩ : ∃ V, V = F + n := ⟨_, rfl⟩
  have hF8 : F ≤ 8 := by omega
  have hn14 : n ≤ 120 := by omega
  have hV22 : V ≤ 130 := by omega
  have eV : c.vars = (V : Int) := by unfold Cir.vars; omega
  have eVn : c.vars.toNat = V := by rw [eV, Int.toNat_natCast]
  have eF : c.first.toNat = F := by rw [show c.first = (F : Int) from hF, Int.toNat_natCast]
  have k1 := blk_new w (.cells #[.int .i64 0, .slice none 0 0, .slice none 0 0, .slice none 0 0] 28)
  have b1 := (Below.refl w.heap.size w).alloc (Nat.le_refl _) (.cells #[.int .i64 0, .slice none 0 0, .slice none 0 0, .slice none 0 0] 28)
  have s1 : (w.alloc (.cells #[.int .i64 0, .slice none 0 0, .slice none 0 0, .slice none 0 0] 28)).heap.size = w.heap.size + 1 := by simp
  have HB : Hid (∀ W, Below w.heap.size w W → CirAt W b c.inp (.slice sn c.next.length cn) (.slice sg n cg) (.slice so c.outs.length co) ∧ Sl W sn (ints c.next) ∧ Sl W sg (gcells c.gates) ∧ Sl W so (ints c.outs)) := fun W hb => by
    rw [hnn]
    exact ⟨⟨(hb.cell (p := ⟨b, 0, none⟩) HBl.out).trans h.h0, (hb.cell (p := ⟨b, 1, none⟩) HBl.out).trans h.h1, (hb.cell (p := ⟨b, 2, none⟩) HBl.out).trans h.h2, (hb.cell (p := ⟨b, 3, none⟩) HBl.out).trans h.h3⟩, hn.mono hb, hg.mono hb, ho.mono hb⟩
  have HVV := Lib.hid (And.intro hv (And.intro eV (And.intro eVn eF)))
  have HFF := Lib.hid (And.intro hF (And.intro hV hnn))
  have H0 := Lib.hid (And.intro k1 (And.intro b1 s1))
  have hmk := fun w => mkInts w V (by omega)
  clear h hn hg ho hv hF eV eVn eF k1 b1 s1 q4 hV hnn
  go_enter Try.func74, Try.ntmps74
  go_upto_region 1 with fail
  revert H0
  generalize w.alloc (.cells #[.int .i64 0, .slice none 0 0, .slice none 0 0, .slice none 0 0] 28) = W1
  intro H0
  go_upto_region 2 with (go_at_call 72; refine (reached_any b sn sg so cn cg co c _ ⟨(HB.out _ H0.out.2.1).1.h0, (HB.out _ H0.out.2.1).1.h1, by rw [← HFF.out.2.2]; exact (HB.out _ H0.out.2.1).1.h2, (HB.out _ H0.out.2.1).1.h3⟩ (HB.out _ H0.out.2.1).2.1 (HB.out _ H0.out.2.1).2.2.1 (HB.out _ H0.out.2.1).2.2.2 HVV.out.1).mono ?_; rintro e w2 ⟨U, rfl, hu, hU, hq⟩; rw [HVV.out.2.2.1]; have H1 := Lib.hid (And.intro hu (And.intro (show w.heap.size + 1 ≤ U by rw [← H0.out.2.2]; exact hU) (And.intro (blk_below hq (blk_lt H0.out.1) H0.out.1) (H0.out.2.1.trans (hq.mono H0.out.2.1.size))))); clear hu hU hq)
  go_upto_region 3 with (go_at_call 38; ((with_reducible refine (vars_any _ _ _ _ _ _ _ _ _ _ (HB.out _ H1.out.2.2.2).1 (by omega) (by omega) (by omega)).mono ?_); rintro e w3 ⟨rfl, hq⟩; rw [show 1 + c.inp + (c.next.length : Int) + (n : Int) = (V : Int) by have h1 := HFF.out.1; have h2 := HFF.out.2.1; omega]; have HQ := Lib.hid hq; clear hq))
  obtain ⟨P, hP⟩ : ∃ P, P = w3.heap.size := ⟨_, rfl⟩
  have hb3 := ((Below.refl w3.heap.size w3).alloc (Nat.le_refl _) (.cells (ints (List.replicate V 0)).toArray 3)).alloc (by simp) (.cells #[.slice (some ⟨w3.heap.size, 0, none⟩) V V] 26)
  have kP := blk_old (o := .cells #[.slice (some ⟨w3.heap.size, 0, none⟩) V V] 26) (blk_new w3 (.cells (ints (List.replicate V 0)).toArray 3))
  have kB : ((w3.alloc (.cells (ints (List.replicate V 0)).toArray 3)).alloc (.cells #[.slice (some ⟨w3.heap.size, 0, none⟩) V V] 26)).heap[w3.heap.size + 1]? = some (.cells #[.slice (some ⟨w3.heap.size, 0, none⟩) V V] 26 (0, 0)) := blk_at (by simp)
  have hsz3 : ((w3.alloc (.cells (ints (List.replicate V 0)).toArray 3)).alloc (.cells #[.slice (some ⟨w3.heap.size, 0, none⟩) V V] 26)).heap.size = w3.heap.size + 2 := by simp
  rw [← hP] at hb3 kP kB hsz3
  rw [← hP]
  revert hb3 kP kB hsz3
  generalize ((w3.alloc (.cells (ints (List.replicate V 0)).toArray 3)).alloc (.cells #[.slice (some ⟨P, 0, none⟩) V V] 26)) = W3
  intro hb3 kP kB hsz3
  have hUP : U < P := by rw [hP]; exact Nat.lt_of_lt_of_le (blk_lt H1.out.1) (HQ.out.below w2.heap.size).size
  have hRU : w.heap.size < U := H1.out.2.1
  have H2 : Hid (W3.heap[U]? = some (.cells (bools (rchL c)).toArray 4 (0, 0)) ∧ W3.heap[w.heap.size]? = some (.cells #[.int .i64 0, .slice none 0 0, .slice none 0 0, .slice none 0 0] 28 (0, 0)) ∧ W3.heap[P]? = some (.cells (ints (plA c 0)).toArray 3 (0, 0)) ∧ W3.heap[P + 1]? = some (.cells #[.slice (some ⟨P, 0, none⟩) V V] 26 (0, 0)) ∧ Below w.heap.size w W3 ∧ W3.heap.size = P + 2) := by
    have hq := HQ.out.below w2.heap.size
    have hw : Below w2.heap.size w2 W3 := hq.trans (hb3.mono (by rw [hP]; exact hq.size))
    exact ⟨blk_below hw (blk_lt H1.out.1) H1.out.1, blk_below hw (blk_lt H1.out.2.2.1) H1.out.2.2.1, by rw [plA_zero, HVV.out.2.2.1]; exact kP, kB, H1.out.2.2.2.trans (hw.mono H1.out.2.2.2.size), hsz3⟩
  clear hP hb3 kP kB hsz3 H0 H1 HQ hmk
  have HS : Hid (∀ W, Chg (· = P) W3 W → W.heap[U]? = some (.cells (bools (rchL c)).toArray 4 (0, 0)) ∧ W.heap[w.heap.size]? = some (.cells #[.int .i64 0, .slice none 0 0, .slice none 0 0, .slice none 0 0] 28 (0, 0)) ∧ W.heap[P + 1]? = some (.cells #[.slice (some ⟨P, 0, none⟩) V V] 26 (0, 0)) ∧ Below w.heap.size w W) := fun W hW => ⟨hW.blk H2.out.1 (by omega), hW.blk H2.out.2.1 (by omega), hW.blk H2.out.2.2.2.1 (by omega), H2.out.2.2.2.2.1.trans (hW.below H2.out.2.2.2.2.1.size (fun k hk e => by omega))⟩
  obtain ⟨cB3, fB3⟩ := blk_all H2.out.2.2.2.1
  go_upto_region 4 with (go_at_call 33; ((with_reducible refine (firstGate_any _ _ _ _ _ _ _ _ (HB.out _ H2.out.2.2.2.2.1).1 (by omega) (by omega)).mono ?_); rintro e w4 ⟨rfl, hq⟩; rw [HFF.out.1]; have H4 := Lib.hid (hq.below W3.heap.size); clear hq))
  clear cB3 fB3
  obtain ⟨cB4, -⟩ := blk_all (HS.out _ (Chg.of_below H4.out)).2.2.1
  go_upto_region 5 with fail
  clear cB4
  go_loopw [20, 5] (fun s20 s5 wr => ∃ k : Nat, k ≤ V ∧ s20 = .int .i64 k ∧ s5 = .int .i64 ((F : Int) + ((bldP c false (k - c.first.toNat)).1.length : Nat)) ∧ wr.heap[P]? = some (.cells (ints (plA c k)).toArray 3 (0, 0)) ∧ Chg (· = P) W3 wr) (fun s20 _ _ => V - (intOf s20).toNat)
  case atStart => exact ⟨0, Nat.zero_le _, rfl, by rw [Nat.zero_sub]; simp [bldP], blk_below H4.out (blk_lt H2.out.2.2.1) H2.out.2.2.1, Chg.of_below H4.out⟩
  case round =>
    obtain ⟨k, hk, rfl, rfl, hp, hb⟩ := hrel
    obtain ⟨L, hL⟩ : ∃ L, L = (bldP c false (k - c.first.toNat)).1.length := ⟨_, rfl⟩
    rw [← hL]
    have hL14 : L ≤ 120 := by
      have h1 := (bldP_ok HVV.out.1 false (k - c.first.toNat) (by have h1 := HFF.out.2.1; have h2 := HFF.out.2.2; have h3 := HVV.out.2.2.2; omega)).glen
      have h2 := HFF.out.2.1; have h3 := HVV.out.2.2.2
      omega
    have HR := Lib.hid (And.intro hp (And.intro hb hL))
    clear hp hb hL
    by_cases hlt : k < V
    · have hP2 : P < W3.heap.size := blk_lt H2.out.2.2.1
      by_cases hkF : k < F
      · have hst := plV_lo HVV.out.1 (k := k) (by rw [HVV.out.2.2.2]; exact hkF)
        have hnew := plA_set HVV.out.1 (k := k) (by rw [HVV.out.2.2.1]; exact hlt) hst.1
        have HN := Lib.hid (And.intro hst.2 hnew)
        clear hst hnew
        go_upto_region 8 with (go_at_call 33; ((with_reducible refine (firstGate_any _ _ _ _ _ _ _ _ (HB.out _ (HS.out _ HR.out.2.1).2.2.2).1 (by omega) (by omega)).mono ?_); rintro e w5 ⟨rfl, hq⟩; rw [HFF.out.1]; have H5 := Lib.hid (hq.below wr.heap.size); clear hq))
        have hb5 : Chg (· = P) W3 w5 := HR.out.2.1.trans (Chg.of_below H5.out)
        have hp5 := blk_below H5.out (blk_lt HR.out.1) HR.out.1
        obtain ⟨cB5, -⟩ := blk_all (HS.out _ hb5).2.2.1
        have cP5 : w5.frozen? ⟨P, k, none⟩ = false := blk_free hp5
        have H6 := Lib.hid (And.intro hb5 hp5)
        obtain ⟨x, hx⟩ := get_of_lt (l := plA c k) (k := k) (by rw [plA_len HVV.out.1 (by rw [HVV.out.2.2.1]; exact hk), HVV.out.2.2.1]; exact hlt)
        have cP6 := ints_cell hp5 hx
        clear hb5 hp5 hx
        go_wp2_with fail
        go_roundw
        case rel => exact ⟨k + 1, by omega, by go_num, by rw [HN.out.1, ← HR.out.2.2], by rw [HN.out.2]; exact ints_blk_set H6.out.2 k _, H6.out.1.trans ⟨rfl, rfl, rfl, by simp, fun j hj hn => blk_set_ne (Ne.symm hn) rfl⟩⟩
        case measure => simp [intOf]; try omega
      · obtain ⟨i, rfl⟩ : ∃ i, k = F + i := ⟨k - F, by omega⟩
        have hin : i < n := by have := HFF.out.2.1; omega
        obtain ⟨x, hx⟩ := get_of_lt (l := usedL c) (k := i) (by rw [usedL_length, ← HFF.out.2.2]; exact hin)
        have hxr : (rchL c)[F + i]? = some x := by rw [← HVV.out.2.2.2, rchL_get HVV.out.1]; exact hx
        have hst := plV_hi HVV.out.1 (i := i) (by rw [← HFF.out.2.2]; exact hin) hx
        rw [HVV.out.2.2.2] at hst
        have HN := Lib.hid (And.intro hst hxr)
        clear hst hx hxr
        go_upto_region 9 with (go_at_call 33; ((with_reducible refine (firstGate_any _ _ _ _ _ _ _ _ (HB.out _ (HS.out _ HR.out.2.1).2.2.2).1 (by omega) (by omega)).mono ?_); rintro e w5 ⟨rfl, hq⟩; rw [HFF.out.1]; have H5 := Lib.hid (hq.below wr.heap.size); clear hq))
        have hb5 : Chg (· = P) W3 w5 := HR.out.2.1.trans (Chg.of_below H5.out)
        have hp5 := blk_below H5.out (blk_lt HR.out.1) HR.out.1
        have hc5 := bools_cell (HS.out _ hb5).1 HN.out.2
        have H6 := Lib.hid (And.intro hb5 hp5)
        cases x
        · clear hb5 hp5
          go_wp2_with fail
          go_roundw
          case rel => exact ⟨F + i + 1, by omega, by go_num, by have h1 := HN.out.1.2; have h2 := HR.out.2.2; rw [HVV.out.2.2.2] at h2 ⊢; rw [← h2] at h1; simp at h1; rw [h1], by rw [plA_keep (by rw [HVV.out.2.2.1]; exact hlt) HN.out.1.1]; exact H6.out.2, H6.out.1⟩
          case measure => simp [intOf]; try omega
        · have hnew := plA_set HVV.out.1 (k := F + i) (by rw [HVV.out.2.2.1]; exact hlt) HN.out.1.1
          obtain ⟨cB5, -⟩ := blk_all (HS.out _ hb5).2.2.1
          have cP5 : w5.frozen? ⟨P, F + i, none⟩ = false := blk_free hp5
          obtain ⟨x, hx⟩ := get_of_lt (l := plA c (F + i)) (k := F + i) (by rw [plA_len HVV.out.1 (by rw [HVV.out.2.2.1]; exact hk), HVV.out.2.2.1]; exact hlt)
          have cP6 := ints_cell hp5 hx
          have HNN := Lib.hid hnew
          have he' : (if true = true then c.first + ((bldP c false i).1.length : Int) else 0) = (F : Int) + (L : Int) := by
            have h2 := HR.out.2.2
            rw [HVV.out.2.2.2, Nat.add_sub_cancel_left] at h2
            rw [if_pos rfl, h2, show c.first = (F : Int) from HFF.out.1]
          have he := Lib.hid he'
          clear he'
          clear hb5 hp5 hx hnew
          go_wp2_with fail
          go_roundw
          case rel => exact ⟨F + i + 1, by omega, by go_num, by have h1 := HN.out.1.2; have h2 := HR.out.2.2; rw [HVV.out.2.2.2] at h2 ⊢; rw [← h2] at h1; simp at h1; congr 1; omega, by rw [HNN.out, he.out]; exact ints_blk_set H6.out.2 (F + i) _, H6.out.1.trans ⟨rfl, rfl, rfl, by simp, fun j hj hn => blk_set_ne (Ne.symm hn) rfl⟩⟩
          case measure => simp [intOf]; try omega
    · obtain rfl : V = k := by omega
      have hp9 : wr.heap[P]? = some (.cells (ints (plV c V)).toArray 3 (0, 0)) := by have h1 := HR.out.1; rw [← HVV.out.2.2.1, plA_full, HVV.out.2.2.1] at h1; exact h1
      have H7 : Hid (∀ W, Below wr.heap.size wr W → W.heap[U]? = some (.cells (bools (rchL c)).toArray 4 (0, 0)) ∧ W.heap[w.heap.size]? = some (.cells #[.int .i64 0, .slice none 0 0, .slice none 0 0, .slice none 0 0] 28 (0, 0)) ∧ W.heap[P + 1]? = some (.cells #[.slice (some ⟨P, 0, none⟩) V V] 26 (0, 0)) ∧ Below w.heap.size w W ∧ W.heap[P]? = some (.cells (ints (plV c V)).toArray 3 (0, 0))) := fun W hW => by
        obtain ⟨h1, h2, h3, h4⟩ := HS.out W (HR.out.2.1.trans (Chg.of_below hW))
        exact ⟨h1, h2, h3, h4, blk_below hW (blk_lt hp9) hp9⟩
      have hRs : w.heap.size < wr.heap.size := by have := blk_lt (H7.out _ (Below.refl _ _)).2.1; exact this
      clear HR HS hp9 hL14
      have HCV : Hid (CV c V) := CV.of_valid HVV.out.1 HVV.out.2.1
      have HPM : Hid (∀ x ∈ plV c V, 0 ≤ x ∧ x ≤ 300) := fun x hx => by
        have := plA_mem (k := c.vars.toNat) HVV.out.1
        rw [plA_full, HVV.out.2.2.1] at this
        exact this x hx
      have HPL : Hid ((plV c V).length = V) := by have := plV_len HVV.out.1 (Nat.le_refl _); rw [HVV.out.2.2.1] at this; exact this
      obtain ⟨f, hf⟩ : ∃ f, f = plF c := ⟨_, rfl⟩
      have hfV : f = plB (plV c V) := by rw [hf]; unfold plF; rw [HVV.out.2.2.1]
      have HF' := Lib.hid (And.intro hf hfV)
      clear hf hfV
      have hCA : CirAt wr b c.inp (.slice sn c.next.length cn) (.slice sg c.gates.length cg) (.slice so c.outs.length co) := by rw [← HFF.out.2.2]; exact (HB.out _ (H7.out _ (Below.refl _ _)).2.2.2.1).1
      have hpr : ∀ W (l : Int), Below wr.heap.size wr W → 0 ≤ l → l / 2 < (V : Int) → Calls Try.prog (94) #[.int .i64 l, .pointer (some ⟨P + 1, 0, none⟩)] W fun e w' => e = .returned (.int .i64 (f l)) ∧ W = w' := fun W l hW h0 h1 => by
        rw [HF'.out.2]
        exact prun1_any (P + 1) V V (some ⟨P, 0, none⟩) (plV c V) l W (blk_cell (H7.out _ hW).2.2.1) HPL.out (Sl.toA (H7.out _ hW).2.2.2.2) h0 h1 (by omega) HPM.out
      have HCL := Lib.hid (replacedP_any b (P + 1) V c f sn sg so cn cg co wr hCA (HB.out _ (H7.out _ (Below.refl _ _)).2.2.2.1).2.1 (HB.out _ (H7.out _ (Below.refl _ _)).2.2.2.1).2.2.1 (HB.out _ (H7.out _ (Below.refl _ _)).2.2.2.1).2.2.2 HCV.out hpr)
      clear hCA hpr
      go_upto_region 14 with (go_at_call 64; refine HCL.out.mono ?_; rintro e w6 ⟨vn, vg, vo, rfl, hown, hq⟩; obtain ⟨sn2, cn2, hs1⟩ := own_shape hown.n; obtain ⟨sg2, cg2, hs2⟩ := own_shape hown.g; obtain ⟨so2, co2, hs3⟩ := own_shape hown.o; rw [show (c.mapC f).next.length = c.next.length by simp [Cir.mapC]] at hs1; rw [show (c.mapC f).gates.length = n by rw [HFF.out.2.2]; simp [Cir.mapC, mapG]] at hs2; rw [show (c.mapC f).outs.length = c.outs.length by simp [Cir.mapC]] at hs3; subst hs1 hs2 hs3; have H8 := Lib.hid (And.intro hown hq); clear hown hq)
      obtain ⟨Wl, rfl⟩ : ∃ Wl, Wl = wr := ⟨_, rfl⟩
      obtain ⟨C, hC⟩ : ∃ C, C = w6.heap.size := ⟨_, rfl⟩
      have kC := blk_new w6 (.cells #[.int .i64 c.inp, .slice sn2 c.next.length cn2, .slice sg2 n cg2, .slice so2 c.outs.length co2] 28)
      have bC := (Below.refl w6.heap.size w6).alloc (Nat.le_refl _) (.cells #[.int .i64 c.inp, .slice sn2 c.next.length cn2, .slice sg2 n cg2, .slice so2 c.outs.length co2] 28)
      rw [← hC] at kC
      rw [← hC]
      have hCs : Wl.heap.size ≤ C := by rw [hC]; exact H8.out.2.size
      clear hC
      revert kC bC
      generalize w6.alloc (.cells #[.int .i64 c.inp, .slice sn2 c.next.length cn2, .slice sg2 n cg2, .slice so2 c.outs.length co2] 28) = WC
      intro kC bC
      obtain ⟨cC, fC⟩ := blk_all kC
      have H9 : Hid (WC.heap[C]? = some (.cells #[.int .i64 c.inp, .slice sn2 c.next.length cn2, .slice sg2 n cg2, .slice so2 c.outs.length co2] 28 (0, 0)) ∧ WC.ownsRow Wl.heap.size 3 1 (.slice sn2 c.next.length cn2) (c.next.map f).length (ints (c.next.map f)) ∧ WC.ownsRow Wl.heap.size 24 2 (.slice sg2 n cg2) n (gcells (mapG f c.gates)) ∧ WC.ownsRow Wl.heap.size 3 1 (.slice so2 c.outs.length co2) (c.outs.map f).length (ints (c.outs.map f)) ∧ Below Wl.heap.size Wl WC ∧ (∀ k, (Value.slice sn2 c.next.length cn2).ownBlock = some k → (Value.slice so2 c.outs.length co2).ownBlock ≠ some k)) :=
        ⟨kC, own_below H8.out.1.n bC, by have h := own_below H8.out.1.g bC; rw [show (c.mapC f).gates.length = n by rw [HFF.out.2.2]; simp [Cir.mapC, mapG]] at h; exact h, own_below H8.out.1.o bC, H8.out.2.trans (bC.mono H8.out.2.size), H8.out.1.ne⟩
      clear kC bC H8 HCL
      go_upto_region 16 with fail
      clear cC fC
      have kD : (WC.setCell ⟨C, 2, none⟩ (.slice none 0 0)).heap[C]? = some (.cells #[.int .i64 c.inp, .slice sn2 c.next.length cn2, .slice none 0 0, .slice so2 c.outs.length co2] 28 (0, 0)) := by simpa using blk_set (o := 2) (v := .slice none 0 0) H9.out.1
      have gD := own_set_ne (o := 2) H9.out.2.2.1 (own_tyb H9.out.2.2.1 H9.out.1 (by decide)) (.slice none 0 0)
      have oD : OutC (WC.setCell ⟨C, 2, none⟩ (.slice none 0 0)) Wl.heap.size C c.inp (c.next.map f) (fltP f c 0) (c.outs.map f) (.slice sn2 c.next.length cn2) (.slice none (fltP f c 0).length 0) (.slice so2 c.outs.length co2) :=
        ⟨kD, own_set_ne (o := 2) H9.out.2.1 (own_tyb H9.out.2.1 H9.out.1 (by decide)) (.slice none 0 0), World.ownsRow_nil _ _ _ _, own_set_ne (o := 2) H9.out.2.2.2.1 (own_tyb H9.out.2.2.2.1 H9.out.1 (by decide)) (.slice none 0 0), H9.out.2.2.2.2.2⟩
      have bD := H9.out.2.2.2.2.1.setCell (p := ⟨C, 2, none⟩) hCs (.slice none 0 0)
      clear kD
      revert gD oD bD
      generalize WC.setCell ⟨C, 2, none⟩ (.slice none 0 0) = WD
      intro gD oD bD
      have HD := Lib.hid (And.intro gD (And.intro oD bD))
      clear gD oD bD
      go_upto_region 17 with fail
      go_loopw [52] (fun s52 wr => ∃ (k : Nat) (s : Option Addr) (cc : Nat), k ≤ n ∧ s52 = .int .i64 k ∧ OutC wr Wl.heap.size C c.inp (c.next.map f) (fltP f c k) (c.outs.map f) (.slice sn2 c.next.length cn2) (.slice s (fltP f c k).length cc) (.slice so2 c.outs.length co2) ∧ wr.ownsRow Wl.heap.size 24 2 (.slice sg2 n cg2) n (gcells (mapG f c.gates)) ∧ (∀ j, (Value.slice sg2 n cg2).ownBlock = some j → (Value.slice s (fltP f c k).length cc).ownBlock ≠ some j) ∧ Below Wl.heap.size Wl wr) (fun s52 _ => n - (intOf s52).toNat)
      case atStart => exact ⟨0, none, 0, Nat.zero_le _, rfl, HD.out.2.1, HD.out.1, fun j _ e => (by simp [Value.ownBlock] at e), HD.out.2.2⟩
      case round =>
        obtain ⟨k, s, cc, hk, rfl, hO, hg2, hne, hb⟩ := hrel
        by_cases hlt : k < n
        · obtain ⟨g, hg⟩ := get_of_lt (l := c.gates) (k := k) (by rw [← HFF.out.2.2]; exact hlt)
          have hmg : (mapG f c.gates)[k]? = some ⟨f g.a, f g.b⟩ := by unfold mapG; rw [List.getElem?_map, hg]; rfl
          obtain ⟨bb, off, rfl, hbw, z1, z2⟩ := (own_sl hg2).gate (Below.refl _ _) hmg
          obtain ⟨x, hx⟩ := get_of_lt (l := usedL c) (k := k) (by rw [usedL_length, ← HFF.out.2.2]; exact hlt)
          obtain ⟨p, hp⟩ : ∃ p : Nat, p = F + k := ⟨_, rfl⟩
          have hFi : (F : Int) + (k : Int) = (p : Int) := by omega
          have hpV : p < V := by have := HFF.out.2.1; omega
          have hxr : (rchL c)[p]? = some x := by rw [hp, ← HVV.out.2.2.2, rchL_get HVV.out.1]; exact hx
          clear hp
          have hst := fltP_some (f := f) hg hx
          have hfl := fltP_len f c k
          obtain ⟨m, hm⟩ : ∃ m, m = (fltP f c k).length := ⟨_, rfl⟩
          rw [← hm] at hO hne hfl
          have HR := Lib.hid (And.intro hO (And.intro hg2 (And.intro hne (And.intro hb (And.intro hst (And.intro hxr hm))))))
          clear hO hg2 hne hb hst hx hxr hg hmg hm
          go_upto_region 19 with fail
          clear z1 z2
          obtain ⟨G, hG⟩ : ∃ G, G = wr.heap.size := ⟨_, rfl⟩
          have kG := blk_new wr (.cells #[.int .i64 (f g.a), .int .i64 (f g.b)] 24)
          have bG := (Below.refl wr.heap.size wr).alloc (Nat.le_refl _) (.cells #[.int .i64 (f g.a), .int .i64 (f g.b)] 24)
          rw [← hG] at kG
          rw [← hG]
          revert kG bG
          generalize wr.alloc (.cells #[.int .i64 (f g.a), .int .i64 (f g.b)] 24) = WG
          intro kG bG
          have HG : Hid (OutC WG Wl.heap.size C c.inp (c.next.map f) (fltP f c k) (c.outs.map f) (.slice sn2 c.next.length cn2) (.slice s m cc) (.slice so2 c.outs.length co2) ∧ WG.ownsRow Wl.heap.size 24 2 (.slice (some ⟨bb, off, none⟩) n cg2) n (gcells (mapG f c.gates)) ∧ Below Wl.heap.size Wl WG ∧ WG.heap[G]? = some (.cells #[.int .i64 (f g.a), .int .i64 (f g.b)] 24 (0, 0)) ∧ (∀ k, (Value.slice s m cc).ownBlock = some k → k < G)) :=
            ⟨HR.out.1.below bG, own_below HR.out.2.1 bG, HR.out.2.2.2.1.trans (bG.mono HR.out.2.2.2.1.size), kG, fun j hj => by rw [hG]; exact (own_blk HR.out.1.g hj).2⟩
          clear kG bG hG
          cases x
          · go_wp2_with (go_at_call 33; ((with_reducible refine (firstGate_any _ _ _ _ _ _ _ _ (HB.out _ (H7.out _ HG.out.2.2.1).2.2.2.1).1 (by omega) (by omega)).mono ?_); rintro e w5 ⟨rfl, hq⟩; rw [HFF.out.1]; have hq5 := hq.below WG.heap.size; have H5 : Hid (OutC w5 Wl.heap.size C c.inp (c.next.map f) (fltP f c k) (c.outs.map f) (.slice sn2 c.next.length cn2) (.slice s m cc) (.slice so2 c.outs.length co2) ∧ w5.ownsRow Wl.heap.size 24 2 (.slice (some ⟨bb, off, none⟩) n cg2) n (gcells (mapG f c.gates)) ∧ Below Wl.heap.size Wl w5 ∧ w5.heap[G]? = some (.cells #[.int .i64 (f g.a), .int .i64 (f g.b)] 24 (0, 0))) := ⟨HG.out.1.below hq5, own_below HG.out.2.1 hq5, HG.out.2.2.1.trans (hq5.mono HG.out.2.2.1.size), blk_below hq5 (blk_lt HG.out.2.2.2.1) HG.out.2.2.2.1⟩; clear hq hq5; have hc5 := bools_cell (H7.out _ H5.out.2.2.1).1 HR.out.2.2.2.2.2.1))
            go_roundw
            case rel => exact ⟨k + 1, s, cc, by omega, by go_num, by rw [HR.out.2.2.2.2.1, if_neg (by simp), ← HR.out.2.2.2.2.2.2]; exact H5.out.1, H5.out.2.1, by rw [HR.out.2.2.2.2.1, if_neg (by simp), ← HR.out.2.2.2.2.2.2]; exact HR.out.2.2.1, H5.out.2.2.1⟩
            case measure => simp [intOf]; try omega
          · have hT : fltP f c (k + 1) = fltP f c k ++ [⟨f g.a, f g.b⟩] := by rw [HR.out.2.2.2.2.1]; rfl
            have HT := Lib.hid hT
            clear hT
            go_upto_region 20 with (go_at_call 33; ((with_reducible refine (firstGate_any _ _ _ _ _ _ _ _ (HB.out _ (H7.out _ HG.out.2.2.1).2.2.2.1).1 (by omega) (by omega)).mono ?_); rintro e w5 ⟨rfl, hq⟩; rw [HFF.out.1]; have hq5 := hq.below WG.heap.size; have H5 : Hid (OutC w5 Wl.heap.size C c.inp (c.next.map f) (fltP f c k) (c.outs.map f) (.slice sn2 c.next.length cn2) (.slice s m cc) (.slice so2 c.outs.length co2) ∧ w5.ownsRow Wl.heap.size 24 2 (.slice (some ⟨bb, off, none⟩) n cg2) n (gcells (mapG f c.gates)) ∧ Below Wl.heap.size Wl w5 ∧ w5.heap[G]? = some (.cells #[.int .i64 (f g.a), .int .i64 (f g.b)] 24 (0, 0))) := ⟨HG.out.1.below hq5, own_below HG.out.2.1 hq5, HG.out.2.2.1.trans (hq5.mono HG.out.2.2.1.size), blk_below hq5 (blk_lt HG.out.2.2.2.1) HG.out.2.2.2.1⟩; clear hq hq5; have hc5 := bools_cell (H7.out _ H5.out.2.2.1).1 HR.out.2.2.2.2.2.1))
            obtain ⟨cC5, fC5⟩ := blk_all H5.out.1.blk
            obtain ⟨cG5, -⟩ := blk_all H5.out.2.2.2
            have hm2 : (fltP f c (k + 1)).length = m + 1 := by rw [HT.out, HR.out.2.2.2.2.2.2]; simp
            have HM2 := Lib.hid hm2
            clear hc5 hm2
            have hgo : w5.ownsRow Wl.heap.size 24 2 (.slice s m cc) m (gcells (fltP f c k)) := by have h := H5.out.1.g; rw [← HR.out.2.2.2.2.2.2] at h; exact h
            have HGO := Lib.hid hgo
            clear hgo
            go_wp2_with (at_builtin; refine wpl_app rfl _ _ rfl elem_gate (own_below HGO.out ((Below.refl _ _).alloc (Nat.le_refl _) _)) rfl rfl rfl (Sl.new _ _ _) (by simp [Value.oneCell']) (m + 1) rfl (gcells (fltP f c (k + 1))) (by rw [HT.out, ← gcells_append]; rfl) (by unfold maxLen; omega) (by omega) (H5.out.2.2.1.alloc H5.out.2.2.1.size _).size ?_; intro s6 c6 w6 h6 hb6 hg6 hob6; have hbA := (Below.refl w5.heap.size w5).alloc (Nat.le_refl _) (.cells #[.int .i64 (f g.a), .int .i64 (f g.b)] 24); obtain ⟨hB2, hO2⟩ := (H5.out.1.below hbA).pushG hg6 (xg' := fltP f c (k + 1)) (by rw [HM2.out]; exact h6); obtain ⟨y1, y2⟩ := blk_all hB2; have hG2 := own_below H5.out.2.1 hbA; have hG3 := (Chg.of_grown hg6).own hG2 (fun j hj e => HR.out.2.2.1 j hj e); have hne6 : ∀ j, (Value.slice (some ⟨bb, off, none⟩) n cg2).ownBlock = some j → (Value.slice s6 (m + 1) c6).ownBlock ≠ some j := (fun j hj e => by rcases hob6 with h | h <;> rw [h] at e; exact HR.out.2.2.1 j hj e; have h9 := (own_blk hG2 hj).2; cases e; omega); have H6 := Lib.hid (And.intro hO2 (And.intro (own_set_ne (o := 2) hG3 (own_tyb hG3 hB2 (by decide)) (.slice s6 (m + 1) c6)) (And.intro hne6 ((H5.out.2.2.1.trans (hbA.mono H5.out.2.2.1.size)).trans hb6)))); clear h6 hb6 hg6 hob6 hbA hB2 hO2 hG2 hG3 hne6)
            go_roundw
            case rel => exact ⟨k + 1, s6, c6, by omega, by go_num, by rw [HM2.out]; exact H6.out.1, H6.out.2.1, by rw [HM2.out]; exact H6.out.2.2.1, H6.out.2.2.2.setCell (p := ⟨C, 2, none⟩) hCs _⟩
            case measure => simp [intOf]; try omega
        · obtain rfl : n = k := by omega
          obtain ⟨m, hm⟩ : ∃ m, m = (fltP f c n).length := ⟨_, rfl⟩
          have hm14 : m ≤ 120 := by have := fltP_len f c n; omega
          rw [← hm] at hO
          have hRk := (H7.out _ hb).2.1
          have hbw := (H7.out _ hb).2.2.2.1
          obtain ⟨cC9, -⟩ := blk_all hO.blk
          obtain ⟨rc, rf⟩ := blk_all hRk
          have HZ := Lib.hid (And.intro hO (And.intro hRk (And.intro hbw hm)))
          clear hO hg2 hne hb hRk hbw hm
          go_wp2_with fail
          clear cC9 rc rf
          have hZ : ((((wr.setCell ⟨w.heap.size, 0, none⟩ (.int .i64 c.inp)).setCell ⟨w.heap.size, 1, none⟩ (.slice sn2 c.next.length cn2)).setCell ⟨w.heap.size, 2, none⟩ (.slice s m cc)).setCell ⟨w.heap.size, 3, none⟩ (.slice so2 c.outs.length co2)).heap[w.heap.size]? = some (.cells #[.int .i64 c.inp, .slice sn2 c.next.length cn2, .slice s m cc, .slice so2 c.outs.length co2] 28 (0, 0)) := by
            simpa using blk_set (o := 3) (v := .slice so2 c.outs.length co2) (blk_set (o := 2) (v := .slice s m cc) (blk_set (o := 1) (v := .slice sn2 c.next.length cn2) (blk_set (o := 0) (v := .int .i64 c.inp) HZ.out.2.1)))
          have hR : CirOwn ((((wr.setCell ⟨w.heap.size, 0, none⟩ (.int .i64 c.inp)).setCell ⟨w.heap.size, 1, none⟩ (.slice sn2 c.next.length cn2)).setCell ⟨w.heap.size, 2, none⟩ (.slice s m cc)).setCell ⟨w.heap.size, 3, none⟩ (.slice so2 c.outs.length co2)) w.heap.size (buildC false c) (.slice sn2 c.next.length cn2) (.slice s m cc) (.slice so2 c.outs.length co2) := by
            rw [← pruned_eq HVV.out.1, ← HF'.out.1, ← HFF.out.2.2]
            exact ⟨own_sets4' HZ.out.1.n hRs (by omega), own_sets4' HZ.out.1.g hRs (by omega), own_sets4' HZ.out.1.o hRs (by omega), HZ.out.1.ne, by show (c.next.map f).length ≤ _; simp; omega, by show (fltP f c n).length ≤ _; rw [← HZ.out.2.2.2]; omega, by show (c.outs.map f).length ≤ _; simp; omega⟩
          have hB := (((HZ.out.2.2.1.setCell (p := ⟨w.heap.size, 0, none⟩) (Nat.le_refl _) (.int .i64 c.inp)).setCell (p := ⟨w.heap.size, 1, none⟩) (Nat.le_refl _) (.slice sn2 c.next.length cn2)).setCell (p := ⟨w.heap.size, 2, none⟩) (Nat.le_refl _) (.slice s m cc)).setCell (p := ⟨w.heap.size, 3, none⟩) (Nat.le_refl _) (.slice so2 c.outs.length co2)
          revert hZ hR hB
          generalize ((((wr.setCell ⟨w.heap.size, 0, none⟩ (.int .i64 c.inp)).setCell ⟨w.heap.size, 1, none⟩ (.slice sn2 c.next.length cn2)).setCell ⟨w.heap.size, 2, none⟩ (.slice s m cc)).setCell ⟨w.heap.size, 3, none⟩ (.slice so2 c.outs.length co2)) = WZ
          intro hZ hR hB
          have cr := (blk_all hZ).1
          exact bodyPost_ret (v := .agg #[.int .i64 c.inp, .slice sn2 c.next.length cn2, .slice s m cc, .slice so2 c.outs.length co2]) (by simp [results, Try.results74, go_sem, cr]) rfl ⟨_, _, _, rfl, hR, hB⟩

end Go.Proofs.Ytjecchljhdfjdaa
