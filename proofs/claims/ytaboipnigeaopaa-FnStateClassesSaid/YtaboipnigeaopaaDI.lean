import Derived.Test.YtaboipnigeaopaaDB
import Derived.Test.YtaboipnigeaopaaBB
import Derived.Test.YtaboipnigeaopaaW4
import Derived.Test.YtaboipnigeaopaaL4
import Derived.Deep.DeepCutAuto
import Derived.Deep.RegionHeld3
namespace Go.Proofs.Ytaboipnigeaopaa
set_option linter.unusedVariables false
set_option linter.unusedSimpArgs false
open Go.RowKit

/-! Three rows of numbers in blocks of their own; where a pair came from. -/

structure TriO (w : World) (base np nf nh : Nat) (vp vf vh : Value) (ps fr hw : List Int) : Prop where
  p : w.ownsRow base 3 1 vp np (ints ps)
  f : w.ownsRow base 3 1 vf nf (ints fr)
  h : w.ownsRow base 3 1 vh nh (ints hw)
  pf : ∀ k, vp.ownBlock = some k → vf.ownBlock ≠ some k
  fh : ∀ k, vf.ownBlock = some k → vh.ownBlock ≠ some k
  hp : ∀ k, vh.ownBlock = some k → vp.ownBlock ≠ some k
theorem TriO.below {w w' : World} {base np nf nh : Nat} {vp vf vh : Value} {ps fr hw : List Int} (h : TriO w base np nf nh vp vf vh ps fr hw) (hb : Below w.heap.size w w') : TriO w' base np nf nh vp vf vh ps fr hw :=
  ⟨own_below h.p hb, own_below h.f hb, own_below h.h hb, h.pf, h.fh, h.hp⟩
theorem TriO.rot {w : World} {base np nf nh : Nat} {vp vf vh : Value} {ps fr hw : List Int} (h : TriO w base np nf nh vp vf vh ps fr hw) : TriO w base nf nh np vf vh vp fr hw ps := ⟨h.f, h.h, h.p, h.fh, h.hp, h.pf⟩
/-- The first row grows. -/
theorem TriO.push {w w2 : World} {base np np' nf nh : Nat} {vp vf vh vp' : Value} {ps ps' fr hw : List Int} (h : TriO w base np nf nh vp vf vh ps fr hw) (hg : w.grownBy w2 vp.ownBlock) (ho : w2.ownsRow base 3 1 vp' np' (ints ps')) (hb : vp'.ownBlock = vp.ownBlock ∨ vp'.ownBlock = some w.heap.size) : TriO w2 base np' nf nh vp' vf vh ps' fr hw := by
  have hc := Chg.of_grown hg
  refine ⟨ho, hc.own h.f (fun k hk e => h.pf k e hk), hc.own h.h (fun k hk e => h.hp k hk e), fun k hk e => ?_, h.fh, fun k hk e => ?_⟩
  · rcases hb with hb | hb
    · exact h.pf k (hb ▸ hk) e
    · rw [hb] at hk; cases hk; have := (own_blk h.f e).2; omega
  · rcases hb with hb | hb
    · exact h.hp k hk (hb ▸ e)
    · rw [hb] at e; cases e; have := (own_blk h.h hk).2; omega
/-- Where the pairs came from and with which inputs. -/
structure FH (es : List En) (fr hw : List Int) : Prop where
  lf : fr.length = es.length
  lh : hw.length = es.length
  zero : ∀ e, es[0]? = some e → e.2 = []
  prev : ∀ (i : Nat) (e : En), es[i]? = some e → 0 < i → ∃ (j : Nat) (e' : En) (x : Int), j < i ∧ fr[i]? = some (j : Int) ∧ hw[i]? = some x ∧ es[j]? = some e' ∧ e.2 = e'.2 ++ [x] ∧ 0 ≤ x ∧ x ≤ 1000
theorem FH.start (p : Int × Int) : FH [(p, [])] [0] [0] :=
  ⟨rfl, rfl, fun e h => by simp at h; subst h; rfl, fun i e h hi => by have := (List.getElem?_eq_some_iff.1 h).1; simp at this; omega⟩
theorem FH.add {es : List En} {fr hw : List Int} (h : FH es fr hw) {k : Nat} {e : En} (hk : es[k]? = some e) (n : Int × Int) {x : Int} (h0 : 0 ≤ x) (h1 : x ≤ 1000) : FH (es ++ [(n, e.2 ++ [x])]) (fr ++ [(k : Int)]) (hw ++ [x]) := by
  have hkl := (List.getElem?_eq_some_iff.1 hk).1
  refine ⟨by simp [h.lf], by simp [h.lh], fun e' he => ?_, fun i e' he hi => ?_⟩
  · rw [List.getElem?_append_left (by omega)] at he
    exact h.zero e' he
  · by_cases hlt : i < es.length
    · rw [List.getElem?_append_left hlt] at he
      obtain ⟨j, e2, y, hj, a1, a2, a3, a4, a5⟩ := h.prev i e' he hi
      exact ⟨j, e2, y, hj, by rw [List.getElem?_append_left (by rw [h.lf]; exact hlt)]; exact a1, by rw [List.getElem?_append_left (by rw [h.lh]; exact hlt)]; exact a2, by rw [List.getElem?_append_left (by omega)]; exact a3, a4, a5⟩
    · have hi2 := (List.getElem?_eq_some_iff.1 he).1
      simp at hi2
      obtain rfl : i = es.length := by omega
      rw [List.getElem?_append_right (Nat.le_refl _), Nat.sub_self] at he
      simp at he
      subst he
      exact ⟨k, e, x, hkl, by rw [List.getElem?_append_right (by rw [h.lf]; exact Nat.le_refl _), h.lf, Nat.sub_self]; rfl, by rw [List.getElem?_append_right (by rw [h.lh]; exact Nat.le_refl _), h.lh, Nat.sub_self]; rfl, by rw [List.getElem?_append_left hkl]; exact hk, rfl, h0, h1⟩
theorem FH.len {es : List En} {fr hw : List Int} (h : FH es fr hw) : ∀ (i : Nat) (e : En), es[i]? = some e → e.2.length ≤ i := by
  intro i
  induction i using Nat.strongRecOn with
  | ind i ih =>
    intro e he
    by_cases h0 : i = 0
    · subst h0; rw [h.zero e he]; simp
    · obtain ⟨j, e2, x, hj, -, -, a3, a4, -⟩ := h.prev i e he (by omega)
      have := ih j hj e2 a3
      rw [a4]; simp; omega
def codeP (s : Int × Int) : Int := s.1 + 64 * s.2
theorem codeP_inj {s t : Int × Int} (h1 : 0 ≤ s.1 ∧ s.1 < 64) (h2 : 0 ≤ t.1 ∧ t.1 < 64) (h : codeP s = codeP t) : s = t := by
  unfold codeP at h
  exact Prod.ext (by omega) (by omega)
def codes (es : List En) : List Int := es.map fun e => codeP e.1
theorem codes_length (es : List En) : (codes es).length = es.length := by simp [codes]
theorem codes_mem {es : List En} {n : Int × Int} (hn : 0 ≤ n.1 ∧ n.1 < 64) (h : ∀ e ∈ es, 0 ≤ e.1.1 ∧ e.1.1 < 64) : codeP n ∈ codes es ↔ n ∈ es.map (·.1) := by
  unfold codes
  constructor
  · intro hm
    obtain ⟨e, he, e1⟩ := List.mem_map.1 hm
    exact List.mem_map.2 ⟨e, he, codeP_inj (h e he) hn e1⟩
  · intro hm
    obtain ⟨e, he, rfl⟩ := List.mem_map.1 hm
    exact List.mem_map.2 ⟨e, he, rfl⟩
/-- The rows of inputs that are returned. -/
def rowsX (ni : Nat) (r : List Int) : List (List Bool) := r.map fun x => bitsV x ni
theorem rowsX_length (ni : Nat) (r : List Int) : (rowsX ni r).length = r.length := by simp [rowsX]
def rowsR (a b : Cir) : List (List Bool) := (disR a b).elim [] (rowsX a.inp.toNat)

set_option maxHeartbeats 400000 in
theorem l4Bits_own (x : Int) (n : Nat) (w : World) (h0 : 0 ≤ x) (h1 : x ≤ 1000000) (hn : n ≤ 20) :
    Calls Try.prog 74 #[.int .i64 x, .int .i64 n] w fun e w' => ∃ s c, e = .returned (.slice s n c) ∧ w'.ownsRow w.heap.size 4 1 (.slice s n c) n (bools (bitsV x n)) ∧ Below w.heap.size w w' := by
  have hA : Below w.heap.size w (w.alloc (.cells #[] 4)) := (Below.refl _ _).alloc (Nat.le_refl _) _
  have ho : (w.alloc (.cells #[] 4)).ownsRow w.heap.size 4 1 (.slice (some ⟨w.heap.size, 0, none⟩) 0 0) 0 [] := own_of_blk (n := 0) (cur := #[]) (blk_new w _) (Nat.le_refl _) (by simp) (by unfold maxLen; omega)
  have HO := Lib.hid (And.intro ho hA)
  clear ho hA
  go_enter Try.func74, Try.ntmps74
  go_wp2
  revert HO
  generalize w.alloc (.cells #[] 4) = WA
  intro HO
  go_loopw [6, 5] (fun i v wr => ∃ (k : Nat) (s : Option Addr) (c : Nat), k ≤ n ∧ i = .int .i64 k ∧ v = .slice s k c ∧ wr.ownsRow w.heap.size 4 1 v k (bools (bitsV x k)) ∧ Below w.heap.size w wr) (fun i _ _ => n - (intOf i).toNat)
  case atStart => exact ⟨0, _, _, Nat.zero_le _, rfl, rfl, HO.out.1, HO.out.2⟩
  case round =>
    obtain ⟨k, so, c, hk, rfl, rfl, ho, hbl⟩ := hrel
    by_cases hlt : k < n
    · have hpw : (1 : Int) ≤ 2 ^ k := by have : (0 : Int) < 2 ^ k := Int.pow_pos (by decide); omega
      have q1 : 0 ≤ x / 2 ^ k := Int.ediv_nonneg h0 (by omega)
      have q2 : x / 2 ^ k ≤ 1000000 := Int.le_trans (Int.ediv_le_self _ h0) h1
      have hbs := hbl.size
      have HR := Lib.hid (And.intro ho (And.intro hbl hpw))
      clear ho hbl hpw
      go_wp2_with (at_builtin; refine wpl_app rfl _ _ rfl elem_bool (own_below HR.out.1 ((Below.refl _ _).alloc (Nat.le_refl _) _)) rfl rfl rfl (Sl.new _ _ _) (by simp [Value.oneCell']) (k + 1) rfl _ rfl (by unfold maxLen; omega) (by omega) (by simp; omega) ?_; intro s3 c3 w3 h3 hb3 _ _; have HA := Lib.hid (And.intro h3 hb3); clear h3 hb3)
      go_roundw
      case rel =>
        refine ⟨k + 1, s3, c3, by omega, by go_num, rfl, ?_, (HR.out.2.1.alloc hbs _).trans HA.out.2⟩
        have e := HA.out.1
        rw [bitsV_snoc]
        unfold bools at *
        rw [List.map_append]
        exact e
      case measure => simp [intOf]; omega
    · obtain rfl : k = n := by omega
      have HR := Lib.hid (And.intro ho hbl)
      clear ho hbl
      go_wp2
      go_ret
      exact ⟨_, _, rfl, HR.out.1, HR.out.2⟩

end Go.Proofs.Ytaboipnigeaopaa
