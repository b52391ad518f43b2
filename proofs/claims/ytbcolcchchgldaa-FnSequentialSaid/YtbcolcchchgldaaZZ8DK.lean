import Derived.Test.YtbcolcchchgldaaZZ8OA
import Derived.Test.YtbcolcchchgldaaZZ8DB
import Derived.Test.YtbcolcchchgldaaZZ8V3
import Derived.Test.YtbcolcchchgldaaZZ8W5
import Derived.Test.YtbcolcchchgldaaZZ8L4
import Derived.Deep.DeepCutAuto
import Derived.Deep.RegionHeld3
import Derived.Test.YtbcolcchchgldaaProg
import Derived.Laws.StructEq
import Derived.Lib.SliceRun
namespace Go.Proofs.Ytbcolcchchgldaa
set_option linter.unusedVariables false
set_option linter.unusedSimpArgs false
open Go.RowKit

/-! Part of the proof of one law. -/

structure TriO (w : World) (base np nf nh : Nat) (vp vf vh : Value) (ps fr hw : List Int) : Prop where
  p : w.ownsRow base 3 1 vp np (ints ps)
  f : w.ownsRow base 3 1 vf nf (ints fr)
  h : w.ownsRow base 3 1 vh nh (ints hw)
  pf : ∀ k, vp.ownBlock = some k → vf.ownBlock ≠ some k
  fh : ∀ k, vf.ownBlock = some k → vh.ownBlock ≠ some k
  hp : ∀ k, vh.ownBlock = some k → vp.ownBlock ≠ some k

theorem TriO.below {w w' : World} {base np nf nh : Nat} {vp vf vh : Value} {ps fr hw : List Int} (h : TriO w base np nf nh vp vf vh ps fr hw) (hb : Below w.heap.size w w') : TriO w' base np nf nh vp vf vh ps fr hw :=
  ⟨own_below h.p hb, own_below h.f hb, own_below h.h hb, h.pf, h.fh, h.hp⟩

theorem TriO.rot {w : World} {base np nf nh : Nat} {vp vf vh : Value} {ps fr hw : List Int} (h : TriO w base np nf nh vp vf vh ps fr hw) : TriO w base nf nh np vf vh vp fr hw ps := ⟨h.f, h.h, h.p, h.fh, h.hp, h.pf⟩

/-- The first row grows. -/
theorem TriO.push {w w2 : World} {base np np' nf nh : Nat} {vp vf vh vp' : Value} {ps ps' fr hw : List Int} (h : TriO w base np nf nh vp vf vh ps fr hw) (hg : w.grownBy w2 vp.ownBlock) (ho : w2.ownsRow base 3 1 vp' np' (ints ps')) (hb : vp'.ownBlock = vp.ownBlock ∨ vp'.ownBlock = some w.heap.size) : TriO w2 base np' nf nh vp' vf vh ps' fr hw := by
  have hc := Chg.of_grown hg
  refine ⟨ho, hc.own h.f (fun k hk e => h.pf k e hk), hc.own h.h (fun k hk e => h.hp k hk e), fun k hk e => ?_, h.fh, fun k hk e => ?_⟩
  · rcases hb with hb | hb
    · exact h.pf k (hb ▸ hk) e
    · rw [hb] at hk; cases hk; have := (own_blk h.f e).2; omega
  · rcases hb with hb | hb
    · exact h.hp k hk (hb ▸ e)
    · rw [hb] at e; cases e; have := (own_blk h.h hk).2; omega

/-- Where the pairs came from and with which inputs. -/
structure FH (es : List En) (fr hw : List Int) : Prop where
  lf : fr.length = es.length
  lh : hw.length = es.length
  zero : ∀ e, es[0]? = some e → e.2 = []
  prev : ∀ (i : Nat) (e : En), es[i]? = some e → 0 < i → ∃ (j : Nat) (e' : En) (x : Int), j < i ∧ fr[i]? = some (j : Int) ∧ hw[i]? = some x ∧ es[j]? = some e' ∧ e.2 = e'.2 ++ [x] ∧ 0 ≤ x ∧ x ≤ 1000

theorem FH.start (p : Int × Int) : FH [(p, [])] [0] [0] :=
  ⟨rfl, rfl, fun e h => by simp at h; subst h; rfl, fun i e h hi => by have := (List.getElem?_eq_some_iff.1 h).1; simp at this; omega⟩

theorem FH.add {es : List En} {fr hw : List Int} (h : FH es fr hw) {k : Nat} {e : En} (hk : es[k]? = some e) (n : Int × Int) {x : Int} (h0 : 0 ≤ x) (h1 : x ≤ 1000) : FH (es ++ [(n, e.2 ++ [x])]) (fr ++ [(k : Int)]) (hw ++ [x]) := by
  have hkl := (List.getElem?_eq_some_iff.1 hk).1
  refine ⟨by simp [h.lf], by simp [h.lh], fun e' he => ?_, fun i e' he hi => ?_⟩
  · rw [List.getElem?_append_left (by omega)] at he
    exact h.zero e' he
  · by_cases hlt : i < es.length
    · rw [List.getElem?_append_left hlt] at he
      obtain ⟨j, e2, y, hj, a1, a2, a3, a4, a5⟩ := h.prev i e' he hi
      exact ⟨j, e2, y, hj, by rw [List.getElem?_append_left (by rw [h.lf]; exact hlt)]; exact a1, by rw [List.getElem?_append_left (by rw [h.lh]; exact hlt)]; exact a2, by rw [List.getElem?_append_left (by omega)]; exact a3, a4, a5⟩
    · have hi2 := (List.getElem?_eq_some_iff.1 he).1
      simp at hi2
      obtain rfl : i = es.length := by omega
      rw [List.getElem?_append_right (Nat.le_refl _), Nat.sub_self] at he
      simp at he
      subst he
      exact ⟨k, e, x, hkl, by rw [List.getElem?_append_right (by rw [h.lf]; exact Nat.le_refl _), h.lf, Nat.sub_self]; rfl, by rw [List.getElem?_append_right (by rw [h.lh]; exact Nat.le_refl _), h.lh, Nat.sub_self]; rfl, by rw [List.getElem?_append_left hkl]; exact hk, rfl, h0, h1⟩

theorem FH.len {es : List En} {fr hw : List Int} (h : FH es fr hw) : ∀ (i : Nat) (e : En), es[i]? = some e → e.2.length ≤ i := by
  intro i
  induction i using Nat.strongRecOn with
  | ind i ih =>
    intro e he
    by_cases h0 : i = 0
    · subst h0; rw [h.zero e he]; simp
    · obtain ⟨j, e2, x, hj, -, -, a3, a4, -⟩ := h.prev i e he (by omega)
      have := ih j hj e2 a3
      rw [a4]; simp; omega

def codeP (s : Int × Int) : Int := s.1 + 64 * s.2

theorem codeP_inj {s t : Int × Int} (h1 : 0 ≤ s.1 ∧ s.1 < 64) (h2 : 0 ≤ t.1 ∧ t.1 < 64) (h : codeP s = codeP t) : s = t := by
  unfold codeP at h
  exact Prod.ext (by omega) (by omega)

def codes (es : List En) : List Int := es.map fun e => codeP e.1

theorem codes_length (es : List En) : (codes es).length = es.length := by simp [codes]

theorem codes_mem {es : List En} {n : Int × Int} (hn : 0 ≤ n.1 ∧ n.1 < 64) (h : ∀ e ∈ es, 0 ≤ e.1.1 ∧ e.1.1 < 64) : codeP n ∈ codes es ↔ n ∈ es.map (·.1) := by
  unfold codes
  constructor
  · intro hm
    obtain ⟨e, he, e1⟩ := List.mem_map.1 hm
    exact List.mem_map.2 ⟨e, he, codeP_inj (h e he) hn e1⟩
  · intro hm
    obtain ⟨e, he, rfl⟩ := List.mem_map.1 hm
    exact List.mem_map.2 ⟨e, he, rfl⟩

/-- The rows of inputs that are returned. -/
def rowsX (ni : Nat) (r : List Int) : List (List Bool) := r.map fun x => bitsV x ni

theorem rowsX_length (ni : Nat) (r : List Int) : (rowsX ni r).length = r.length := by simp [rowsX]

theorem elem_bss2 : ElemOf Try.prog 40 39 (.slice none 0 0) 1 24 :=
  ⟨by kernel_rfl, info_parts (by kernel_rfl), rfl, by omega⟩

/-- Rows of Booleans in blocks from B on. -/
def SlBA (w : World) (B : Nat) (s : Option Addr) (rows : List (List Bool)) : Prop :=
  ∃ vs : List Value, vs.length = rows.length ∧ Sl w s vs ∧ (∀ a, s = some a → B ≤ a.block) ∧ (∀ u ∈ vs, u.oneCell' = true) ∧ ∀ (i : Nat) (r : List Bool), rows[i]? = some r → ∃ si ci, vs[i]? = some (Value.slice si r.length ci) ∧ Sl w si (bools r) ∧ ∀ a, si = some a → B ≤ a.block

theorem SlBA.slb {w : World} {B : Nat} {s : Option Addr} {rows : List (List Bool)} (h : SlBA w B s rows) : SlB w s rows := by
  obtain ⟨vs, h1, h2, -, -, h5⟩ := h
  exact ⟨vs, h1, h2, fun i r hr => by obtain ⟨si, ci, e1, e2, -⟩ := h5 i r hr; exact ⟨si, ci, e1, e2⟩⟩

theorem SlBA.mono {w w' : World} {B : Nat} {s : Option Addr} {rows : List (List Bool)} (h : SlBA w B s rows) (hb : Below w.heap.size w w') : SlBA w' B s rows := by
  obtain ⟨vs, h1, h2, h3, h4, h5⟩ := h
  exact ⟨vs, h1, h2.mono hb, h3, h4, fun i r hr => by obtain ⟨si, ci, e1, e2, e3⟩ := h5 i r hr; exact ⟨si, ci, e1, e2.mono hb, e3⟩⟩

theorem Sl.setlow {w : World} {B r o : Nat} {s : Option Addr} {cs : List Value} {v : Value} (h : Sl w s cs) (hB : ∀ a, s = some a → B ≤ a.block) (hr : r < B) : Sl (w.setCell ⟨r, o, none⟩ v) s cs := by
  rcases h with rfl | ⟨b, off, rfl, h⟩
  · exact .inl rfl
  · have hb := hB _ rfl
    refine .inr ⟨b, off, rfl, fun j u hu => ?_⟩
    have := h j u hu
    unfold World.cell? at this ⊢
    rw [blk_set_ne (b := b) (c := r) (x := w.heap[b]?) (by simp only at hb; omega) rfl]
    exact this

theorem SlBA.setlow {w : World} {B r o : Nat} {s : Option Addr} {rows : List (List Bool)} {v : Value} (h : SlBA w B s rows) (hr : r < B) : SlBA (w.setCell ⟨r, o, none⟩ v) B s rows := by
  obtain ⟨vs, h1, h2, h3, h4, h5⟩ := h
  exact ⟨vs, h1, h2.setlow h3 hr, h3, h4, fun i q hq => by obtain ⟨si, ci, e1, e2, e3⟩ := h5 i q hq; exact ⟨si, ci, e1, e2.setlow e3 hr, e3⟩⟩

theorem own_from {w : World} {base : Nat} {e : TypeId} {size : Nat} {s : Option Addr} {c n : Nat} {xs : List Value} (h : w.ownsRow base e size (.slice s n c) n xs) : ∀ a, s = some a → base ≤ a.block := by
  intro a ha
  rcases h.2 with ⟨h', -⟩ | ⟨g, cap, cur, h', hb, -⟩
  · simp only [Value.slice.injEq] at h'
    obtain ⟨rfl, -⟩ := h'
    cases ha
  · simp only [Value.slice.injEq] at h'
    obtain ⟨rfl, -⟩ := h'
    cases ha
    exact hb

theorem SlBA.one {w : World} {B : Nat} {s : Option Addr} {c n : Nat} {bs : List Bool} (h : Sl w s (bools bs)) (hB : ∀ a, s = some a → B ≤ a.block) (hw : B ≤ w.heap.size) (hn : n = bs.length) (t : TypeId) : SlBA (w.alloc (.cells #[.slice s n c] t)) B (some ⟨w.heap.size, 0, none⟩) [bs] := by
  subst hn
  refine ⟨[.slice s bs.length c], rfl, Sl.new _ _ _, fun a ha => by cases ha; exact hw, by simp [Value.oneCell'], fun i r hr => ?_⟩
  cases i with
  | zero => simp at hr; subst hr; exact ⟨s, c, rfl, h.mono ((Below.refl _ _).alloc (Nat.le_refl _) _), hB⟩
  | succ i => simp at hr

set_option maxHeartbeats 400000 in
theorem l4Bits_own (x : Int) (n : Nat) (w : World) (h0 : 0 ≤ x) (h1 : x ≤ 1000000) (hn : n ≤ 20) :
    Calls Try.prog 131 #[.int .i64 x, .int .i64 n] w fun e w' => ∃ s c, e = .returned (.slice s n c) ∧ w'.ownsRow w.heap.size 4 1 (.slice s n c) n (bools (bitsV x n)) ∧ Below w.heap.size w w' := by
  have hA : Below w.heap.size w (w.alloc (.cells #[] 4)) := (Below.refl _ _).alloc (Nat.le_refl _) _
  have ho : (w.alloc (.cells #[] 4)).ownsRow w.heap.size 4 1 (.slice (some ⟨w.heap.size, 0, none⟩) 0 0) 0 [] := own_of_blk (n := 0) (cur := #[]) (blk_new w _) (Nat.le_refl _) (by simp) (by unfold maxLen; omega)
  have HO := Lib.hid (And.intro ho hA)
  clear ho hA
  go_enter Try.func131, Try.ntmps131
  go_wp2
  revert HO
  generalize w.alloc (.cells #[] 4) = WA
  intro HO
  go_loopw [6, 5] (fun i v wr => ∃ (k : Nat) (s : Option Addr) (c : Nat), k ≤ n ∧ i = .int .i64 k ∧ v = .slice s k c ∧ wr.ownsRow w.heap.size 4 1 v k (bools (bitsV x k)) ∧ Below w.heap.size w wr) (fun i _ _ => n - (intOf i).toNat)
  case atStart => exact ⟨0, _, _, Nat.zero_le _, rfl, rfl, HO.out.1, HO.out.2⟩
  case round =>
    obtain ⟨k, so, c, hk, rfl, rfl, ho, hbl⟩ := hrel
    by_cases hlt : k < n
    · have hpw : (1 : Int) ≤ 2 ^ k := by have : (0 : Int) < 2 ^ k := Int.pow_pos (by decide); omega
      have q1 : 0 ≤ x / 2 ^ k := Int.ediv_nonneg h0 (by omega)
      have q2 : x / 2 ^ k ≤ 1000000 := Int.le_trans (Int.ediv_le_self _ h0) h1
      have hbs := hbl.size
      have HR := Lib.hid (And.intro ho (And.intro hbl hpw))
      clear ho hbl hpw
      go_wp2_with (at_builtin; refine wpl_app rfl _ _ rfl elem_bool (own_below HR.out.1 ((Below.refl _ _).alloc (Nat.le_refl _) _)) rfl rfl rfl (Sl.new _ _ _) (by simp [Value.oneCell']) (k + 1) rfl _ rfl (by unfold maxLen; omega) (by omega) (by simp; omega) ?_; intro s3 c3 w3 h3 hb3 _ _; have HA := Lib.hid (And.intro h3 hb3); clear h3 hb3)
      go_roundw
      case rel =>
        refine ⟨k + 1, s3, c3, by omega, by go_num, rfl, ?_, (HR.out.2.1.alloc hbs _).trans HA.out.2⟩
        have e := HA.out.1
        rw [bitsV_snoc]
        unfold bools at *
        rw [List.map_append]
        exact e
      case measure => simp [intOf]; omega
    · obtain rfl : k = n := by omega
      have HR := Lib.hid (And.intro ho hbl)
      clear ho hbl
      go_wp2
      go_ret
      exact ⟨_, _, rfl, HR.out.1, HR.out.2⟩

set_option maxRecDepth 100000 in
set_option maxHeartbeats 1600000 in
theorem l16Rows_any (ni : Nat) (vn vg vo : Value) (sf sh : Option Addr) (cf ch : Nat) (es : List En) (fr hw : List Int) (k : Nat) (e0 : En) (last : Int) (w : World) (n4 : ni ≤ 4) (hF : FH es fr hw) (hs : Sl w sf (ints fr)) (hh : Sl w sh (ints hw)) (hk : es[k]? = some e0) (hl0 : 0 ≤ last) (hl1 : last ≤ 1000) (hlen : es.length ≤ 1000) :
    Calls Try.prog 100 #[.agg #[.int .i64 ni, vn, vg, vo], .slice sf es.length cf, .slice sh es.length ch, .int .i64 k, .int .i64 last] w fun e w' => ∃ s cap, e = .returned (.slice s (e0.2.length + 1) cap) ∧ SlBA w' w.heap.size s (rowsX ni (e0.2 ++ [last])) ∧ Below w.heap.size w w' := by
  have hkl := (List.getElem?_eq_some_iff.1 hk).1
  have hL := hF.len k e0 hk
  obtain ⟨W0, hW0⟩ : ∃ W0, W0 = w.alloc (.cells #[.int .i64 ni, vn, vg, vo] 26) := ⟨_, rfl⟩
  have hbx : W0.heap[w.heap.size]? = some (.cells #[.int .i64 ni, vn, vg, vo] 26 (0, 0)) := by rw [hW0]; exact blk_new _ _
  have hbw : Below w.heap.size w W0 := by rw [hW0]; exact (Below.refl _ _).alloc (Nat.le_refl _) _
  have HS := Lib.hid (And.intro hs (And.intro hh (And.intro hF (And.intro hk hL))))
  have HW := Lib.hid (And.intro hW0 (And.intro hbx hbw))
  obtain ⟨K0, hK0⟩ : ∃ K0, K0 = e0.2.length := ⟨_, rfl⟩
  rw [← hK0] at hL ⊢
  have HK0 := Lib.hid hK0
  have hK1 : K0 ≤ 1000 := by omega
  clear hs hh hF hk hL hW0 hbx hbw hK0
  go_enter Try.func100, Try.ntmps100
  go_upto_region 1 with fail
  rw [← HW.out.1]
  have cb := (blk_all HW.out.2.1).1
  go_upto_region 2 with (go_at_call 131; ((with_reducible refine (l4Bits_own last ni _ hl0 (by omega) (by omega)).mono ?_); rintro e w1 ⟨s1, c1, rfl, h1, hq⟩; have H1 := Lib.hid (And.intro h1 hq); clear h1 hq cb))
  have hb1 : Below w.heap.size w (w1.alloc (.cells #[.slice s1 ni c1] 39)) := (HW.out.2.2.trans (H1.out.2.mono HW.out.2.2.size)).alloc (Nat.le_trans HW.out.2.2.size H1.out.2.size) _
  have hx1 := blk_old (o := .cells #[.slice s1 ni c1] 39) (blk_below H1.out.2 (blk_lt HW.out.2.1) HW.out.2.1)
  have hr1 : SlBA (w1.alloc (.cells #[.slice s1 ni c1] 39)) w.heap.size (some ⟨w1.heap.size, 0, none⟩) (rowsX ni [last]) := SlBA.one (own_sl H1.out.1) (fun a ha => Nat.le_trans HW.out.2.2.size (own_from H1.out.1 a ha)) (Nat.le_trans HW.out.2.2.size H1.out.2.size) (bitsV_length _ _).symm _
  revert hb1 hx1 hr1
  generalize w1.alloc (.cells #[.slice s1 ni c1] 39) = W2
  intro hb1 hx1 hr1
  have HD := Lib.hid (And.intro hb1 (And.intro hx1 hr1))
  clear hb1 hx1 hr1 H1 HW
  go_loopw [3, 11] (fun v3 v11 wr => ∃ (p : Nat) (e : En) (suf : List Int) (s : Option Addr) (c : Nat), es[p]? = some e ∧ v3 = .int .i64 p ∧ v11 = .slice s suf.length c ∧ SlBA wr w.heap.size s (rowsX ni suf) ∧ e.2 ++ suf = e0.2 ++ [last] ∧ Below W2.heap.size W2 wr) (fun v3 _ _ => (intOf v3).toNat)
  case atStart => exact ⟨k, e0, [last], _, _, HS.out.2.2.2.1, rfl, rfl, HD.out.2.2, rfl, Below.refl _ _⟩
  case round =>
    obtain ⟨p, e, suf, s, c, he, rfl, rfl, hsb, hsuf, hbl⟩ := hrel
    have hpl := (List.getElem?_eq_some_iff.1 he).1
    have hbw := HD.out.1.trans (hbl.mono HD.out.1.size)
    by_cases h0 : p = 0
    · subst h0
      have hz := HS.out.2.2.1.zero e he
      have hsuf2 : suf = e0.2 ++ [last] := by rw [hz] at hsuf; simpa using hsuf
      have hsl : suf.length = K0 + 1 := by rw [hsuf2, HK0.out]; simp
      have hsb2 := hsb
      rw [hsuf2] at hsb2
      rw [hsl]
      have HR := Lib.hid (And.intro hsb2 hbw)
      clear hsb2 hsb hsuf hz hbl he hsuf2 hsl hbw
      go_wp2_with fail
      go_ret
      exact ⟨s, c, rfl, HR.out.1, HR.out.2⟩
    · obtain ⟨j, e', x, hj, a1, a2, a3, a4, x0, x1⟩ := HS.out.2.2.1.prev p e he (by omega)
      obtain ⟨fb, fo, rfl, hfb, -⟩ := HS.out.1.int hbw a1
      obtain ⟨hb, ho, rfl, hhb, -⟩ := HS.out.2.1.int hbw a2
      have hsl : suf.length ≤ K0 + 1 := by
        have h1 := congrArg List.length hsuf
        rw [List.length_append, List.length_append, ← HK0.out] at h1
        simp at h1; omega
      have HC : Hid (∀ W, Below wr.heap.size wr W → ((∀ o, W.cell? ⟨w.heap.size, o, none⟩ = #[Value.int .i64 ni, vn, vg, vo][o]?) ∧ W.cell? ⟨hb, ho + p, none⟩ = some (.int .i64 x)) ∧ W.cell? ⟨fb, fo + p, none⟩ = some (.int .i64 j)) := fun W hW => by
        have hq := hbl.trans (hW.mono hbl.size)
        refine ⟨⟨(blk_all (blk_below hq (blk_lt HD.out.2.1) HD.out.2.1)).1, ?_⟩, ?_⟩
        · obtain ⟨_, _, e1, -, z⟩ := HS.out.2.1.int (HD.out.1.trans (hq.mono HD.out.1.size)) a2
          cases e1; exact z
        · obtain ⟨_, _, e1, -, z⟩ := HS.out.1.int (HD.out.1.trans (hq.mono HD.out.1.size)) a1
          cases e1; exact z
      obtain ⟨vs, v1, v2, -, v3, v4⟩ := hsb
      rw [rowsX_length] at v1
      have hp0 : 0 < p := by omega
      have HR := Lib.hid (And.intro a3 (And.intro (show e'.2 ++ (x :: suf) = e0.2 ++ [last] by rw [← hsuf, a4]; simp) (And.intro hbl (And.intro v1 (And.intro v2 (And.intro v3 v4))))))
      clear he hsuf hbl hbw a1 a2 a3 a4 v1 v2 v3 v4 h0 hfb hhb
      go_upto_region 3 with fail
      refine wp_region_T (fun w' => (∀ o, w'.cell? ⟨w.heap.size, o, none⟩ = #[Value.int .i64 ni, vn, vg, vo][o]?) ∧ w'.cell? ⟨hb, ho + p, none⟩ = some (.int .i64 x)) (.q 0 (.q 1 (.q 2 (.q 3 (.q 4 (.q 5 (.q 8 (.e 6 (.e 7 (.e 9 (.q 10 .nil))))))))))) (by kernel_rfl) (by kernel_rfl) (by kernel_rfl) (HC.out _ (Below.refl _ _).drew).1 ?_
      repeat (first | (refine ordt_s (o := ?_) ?_ ?_ ?_; rotate_left 1; (focus ((simp only [zD, zE, zF]) <;> rfl)); (focus rfl); simp only [Act.put, zA, zB, zC]) | (refine ordt_q (o := ?_) (v := ?_) ?_ ?_ ?_ ?_; rotate_left 2; (focus ((simp only [zD, zE, zF]) <;> rfl)); (focus rfl); (focus (intro w' hS; (try dsimp only at hS); go_split_ands; go_simp; (try (with_reducible rfl)))); simp only [Act.put, zA, zB, zC]))
      refine ordt_e ?_
      (refine op_e (o := ?_) ?_ ?_ (fun K hK => ?_); rotate_left 1; (focus ((simp only [zD, zE, zF]) <;> rfl)); (focus rfl); go_simp)
      refine (l4Bits_own x ni _ x0 (by omega) (by omega)).mono ?_
      rintro e2 w3 ⟨s3, c3, rfl, h3, hq⟩
      have hq3 : Below wr.heap.size wr w3 := (Below.refl _ _).drew.trans hq
      refine hK.out _ _ (HC.out _ hq3).1 ?_
      clear hK K hq
      have H3 := Lib.hid (And.intro h3 hq3)
      clear h3 hq3
      (try simp only [Act.put, zA, zB, zC])
      repeat (first | (refine ordt_s (o := ?_) ?_ ?_ ?_; rotate_left 1; (focus ((simp only [zD, zE, zF]) <;> rfl)); (focus rfl); simp only [Act.put, zA, zB, zC]) | (refine ordt_q (o := ?_) (v := ?_) ?_ ?_ ?_ ?_; rotate_left 2; (focus ((simp only [zD, zE, zF]) <;> rfl)); (focus rfl); (focus (intro w' hS; (try dsimp only at hS); go_split_ands; go_simp; (try (with_reducible rfl)))); simp only [Act.put, zA, zB, zC]))
      refine ordt_e ?_
      (refine op_e (o := ?_) ?_ ?_ (fun K hK => ?_); rotate_left 1; (focus ((simp only [zD, zE, zF]) <;> rfl)); (focus rfl); go_simp)
      have hA := (Below.refl w3.heap.size w3).alloc (Nat.le_refl _) (.cells #[.slice s3 ni c3] 39)
      have hrow : (w3.alloc (.cells #[.slice s3 ni c3] 39)).ownsRow w3.heap.size 39 1 (.slice (some ⟨w3.heap.size, 0, none⟩) 1 1) 1 [.slice s3 ni c3] := own_of_blk (n := 1) (cur := #[.slice s3 ni c3]) (blk_new _ _) (Nat.le_refl _) (by simp) (by unfold maxLen; omega)
      revert hA hrow
      generalize w3.alloc (.cells #[.slice s3 ni c3] 39) = W4
      intro hA hrow
      refine hK.out _ _ (HC.out _ (H3.out.2.trans (hA.mono H3.out.2.size))).1 ?_
      clear hK K
      have H4 := Lib.hid (And.intro hA hrow)
      clear hA hrow
      (try simp only [Act.put, zA, zB, zC])
      repeat (first | (refine ordt_s (o := ?_) ?_ ?_ ?_; rotate_left 1; (focus ((simp only [zD, zE, zF]) <;> rfl)); (focus rfl); simp only [Act.put, zA, zB, zC]) | (refine ordt_q (o := ?_) (v := ?_) ?_ ?_ ?_ ?_; rotate_left 2; (focus ((simp only [zD, zE, zF]) <;> rfl)); (focus rfl); (focus (intro w' hS; (try dsimp only at hS); go_split_ands; go_simp; (try (with_reducible rfl)))); simp only [Act.put, zA, zB, zC]))
      refine ordt_e ?_
      (refine op_e (o := ?_) ?_ ?_ (fun K hK => ?_); rotate_left 1; (focus ((simp only [zD, zE, zF]) <;> rfl)); (focus rfl))
      refine wp_app (.tmp 26) (.tmp 27) rfl elem_bss2 H4.out.2 rfl rfl (by rw [HR.out.2.2.2.1, Nat.mul_one]) (HR.out.2.2.2.2.1.mono (H3.out.2.trans (H4.out.1.mono H3.out.2.size))) HR.out.2.2.2.2.2.1 (suf.length + 1) (Nat.add_comm _ _) (.slice s3 ni c3 :: vs) rfl (by unfold maxLen; omega) (by omega) H4.out.1.size ?_
      intro s6 c6 w6 h6 hb6 hg6 hob
      have hq36 := H4.out.1.trans hb6
      have hq6 := H3.out.2.trans (hq36.mono H3.out.2.size)
      refine hK.out _ _ (HC.out _ hq6).1 ?_
      clear hK K
      have hbig : w.heap.size ≤ w3.heap.size := by have h1 := HD.out.1.size; have h2 := HR.out.2.2.1.size; have h3 := H3.out.2.size; omega
      have hnew : SlBA w6 w.heap.size s6 (rowsX ni (x :: suf)) := by
        refine ⟨.slice s3 ni c3 :: vs, by simp [rowsX, HR.out.2.2.2.1], own_sl h6, fun a ha => Nat.le_trans hbig (own_from h6 a ha), fun u hu => (List.mem_cons.1 hu).elim (fun e => by rw [e]; simp [Value.oneCell']) (HR.out.2.2.2.2.2.1 u), fun i r hr => ?_⟩
        cases i with
        | zero =>
          simp [rowsX] at hr
          subst hr
          exact ⟨s3, c3, by rw [bitsV_length]; rfl, (own_sl H3.out.1).mono hq36, fun a ha => Nat.le_trans (by have h0 : wr.drew.heap.size = wr.heap.size := rfl; have h1 := HD.out.1.size; have h2 := HR.out.2.2.1.size; omega) (own_from H3.out.1 a ha)⟩
        | succ i =>
          obtain ⟨si, ci, e1, e2, e3⟩ := HR.out.2.2.2.2.2.2 i r (by simpa [rowsX] using hr)
          exact ⟨si, ci, e1, e2.mono hq6, e3⟩
      have H6 := Lib.hid (And.intro hnew (HR.out.2.2.1.trans (hq6.mono HR.out.2.2.1.size)))
      have z := (HC.out _ hq6).2
      clear hnew hbig h6 hb6 hg6 hob hq6 hq36
      (try simp only [Act.put, zA, zB, zC])
      repeat (first | (refine ordt_s (o := ?_) ?_ ?_ ?_; rotate_left 1; (focus ((simp only [zD, zE, zF]) <;> rfl)); (focus rfl); simp only [Act.put, zA, zB, zC]) | (refine ordt_q (o := ?_) (v := ?_) ?_ ?_ ?_ ?_; rotate_left 2; (focus ((simp only [zD, zE, zF]) <;> rfl)); (focus rfl); (focus (intro w' hS; (try dsimp only at hS); go_split_ands; go_simp; (try (with_reducible rfl)))); simp only [Act.put, zA, zB, zC]))
      refine ordt_nil ?_
      go_wp2_with fail
      go_roundw
      case rel => exact ⟨j, e', x :: suf, s6, c6, HR.out.1, by go_num, rfl, H6.out.1, HR.out.2.1, H6.out.2⟩
      case measure => simp [intOf]; omega

def pairV (x : Int × Int) : Value := .agg #[.int .i64 x.1, .int .i64 x.2]

theorem und_p2 : ∀ (e : Bool) (x : Int × Int) (w : World), (Instr.checkKey e 10000 82 (pairV x)).run Try.prog w = .ok () w := by
  intro e x w
  suffices h : ∀ n : Nat, (Instr.checkKey e (n + 1 + 1) 82 (pairV x)).run Try.prog w = .ok () w from h 9998
  intro n
  have hz : (sizeOf 3).run Try.prog w = .ok 1 w := by kernel_rfl
  unfold pairV
  have hr : List.range' 0 2 = [0, 1] := rfl
  simp [Instr.checkKey, run_underlying Try.underlying82, run_underlying Try.underlying3, part, isAgg, go_sem, hz, hr]

set_option maxHeartbeats 1600000 in
theorem equal_p2 (x y : Int × Int) (w : World) : (Op.equal 82 (pairV x) (pairV y)).run Try.prog w = .ok (decide (x = y)) w := by
  have e : (decide (x = y)) = (decide (x.1 = y.1) && decide (x.2 = y.2)) := by
    rw [Bool.eq_iff_iff]
    simp only [Bool.and_eq_true, decide_eq_true_eq]
    exact ⟨fun h => by rw [h]; exact ⟨rfl, rfl⟩, fun h => Prod.ext h.1 h.2⟩
  rw [e]
  have hz : (sizeOf 3).run Try.prog w = .ok 1 w := by kernel_rfl
  have hr : List.range' 0 2 = [0, 1] := rfl
  have hi : ∀ (n : Nat) (a b : Int), (Op.equalIn (n + 1) 3 (.int .i64 a) (.int .i64 b)).run Try.prog w = .ok (decide (a = b)) w := by
    intro n a b
    simp [Op.equalIn, run_underlying Try.underlying3, go_sem]
    by_cases h : a = b <;> simp [h]
  have h : ∀ n : Nat, (Op.equalIn (n + 1 + 1) 82 (pairV x) (pairV y)).run Try.prog w = .ok (decide (x.1 = y.1) && decide (x.2 = y.2)) w := by
    intro n
    unfold pairV Op.equalIn
    by_cases h1 : x.1 = y.1 <;> by_cases h2 : x.2 = y.2 <;> simp [run_underlying Try.underlying82, run_underlying Try.underlying3, part, isAgg, go_sem, hz, hr, hi, h1, h2]
  unfold Op.equal Op.maxDepth
  exact h 9998

def p2Of : Value → Int × Int
  | .agg cs => (intOf (cs.getD 0 undef), intOf (cs.getD 1 undef))
  | _ => (0, 0)

theorem p2Of_agg (x : Int × Int) : p2Of (pairV x) = x := rfl

theorem run_findKeyA {P : Program} {w : World} {K et : TypeId} {n : Nat} (hK : P.underlying K = some (.array n et)) {k : Value} {p : Value → Bool} (es : List MapEntry) (h : ∀ e ∈ es, (Op.equal K k e.key).run P w = .ok (p e.key) w) :
    (Instr.findKey K k es).run P w = .ok (fk p es 0) w := by
  unfold Instr.findKey
  simp only [Sem.run_bind, run_underlying hK, Result.andThen_ok]
  cases es with
  | nil => simp [Instr.findNow, fk]
  | cons e es =>
    have h0 : ∀ e', Instr.findNow (.array n e') k (e :: es) 0 = none := fun e' => by simp [Instr.findNow, Instr.sameNow]
    rw [h0]
    exact run_findAsking _ 0 h

/-- Block b is a map that holds exactly the pairs ks, each with true. -/
def MapP (w : World) (b : Nat) (ks : List (Int × Int)) : Prop :=
  ∃ es clock, w.heap[b]? = some (.map es clock) ∧ es.toList.map (fun e => (e.key, e.val)) = ks.map fun x => (pairV x, Value.bool true)

theorem MapP.key {es : List MapEntry} {ks : List (Int × Int)} (h : es.map (fun e => (e.key, e.val)) = ks.map fun x => (pairV x, Value.bool true)) : ∀ e ∈ es, ∃ y ∈ ks, e.key = pairV y ∧ e.val = .bool true := by
  intro e he
  have : (e.key, e.val) ∈ ks.map fun x => (pairV x, Value.bool true) := by rw [← h]; exact List.mem_map.2 ⟨e, he, rfl⟩
  obtain ⟨y, hy, e1⟩ := List.mem_map.1 this
  have e2 := Prod.mk.inj e1
  exact ⟨y, hy, e2.1.symm, e2.2.symm⟩

theorem MapP.back {es : List MapEntry} {ks : List (Int × Int)} (h : es.map (fun e => (e.key, e.val)) = ks.map fun x => (pairV x, Value.bool true)) : ∀ y ∈ ks, ∃ e ∈ es, e.key = pairV y := by
  intro y hy
  have : (pairV y, Value.bool true) ∈ es.map fun e => (e.key, e.val) := by rw [h]; exact List.mem_map.2 ⟨y, hy, rfl⟩
  obtain ⟨e, he, e1⟩ := List.mem_map.1 this
  exact ⟨e, he, (Prod.mk.inj e1).1⟩

theorem fk_none' {p : Value → Bool} : ∀ {es : List MapEntry} (i : Nat), (∀ e ∈ es, p e.key = false) → fk p es i = none
  | [], _, _ => rfl
  | e :: es, i, h => by
    unfold fk
    rw [if_neg (by simp [h e (by simp)])]
    exact fk_none' (i + 1) fun e he => h e (by simp [he])

theorem fk_some' {p : Value → Bool} : ∀ {es : List MapEntry} (i : Nat), (∃ e ∈ es, p e.key = true) → ∃ j e, fk p es i = some (j, e.val) ∧ e ∈ es
  | [], _, h => by obtain ⟨e, he, _⟩ := h; cases he
  | e :: es, i, h => by
    unfold fk
    by_cases hp : p e.key = true
    · rw [if_pos hp]; exact ⟨i, e, rfl, by simp⟩
    · rw [if_neg hp]
      obtain ⟨e', he', hp'⟩ := h
      have : ∃ e ∈ es, p e.key = true := by
        rcases List.mem_cons.1 he' with rfl | h'
        · exact absurd hp' hp
        · exact ⟨e', h', hp'⟩
      obtain ⟨j, e2, h1, h2⟩ := fk_some' (i + 1) this
      exact ⟨j, e2, h1, by simp [h2]⟩

theorem mapp_lookup {w : World} {b : Nat} {ks : List (Int × Int)} (h : MapP w b ks) (x : Int × Int) :
    (Instr.lookup 141 (.map (some b)) (pairV x) false).run Try.prog w = .ok (.bool (decide (x ∈ ks))) w := by
  obtain ⟨es, clock, hb, hm⟩ := h
  have hk := MapP.key hm
  have hf := run_findKeyA (P := Try.prog) (w := w) (K := 82) Try.underlying82 (k := pairV x) (p := fun v => decide (x = p2Of v)) es.toList (fun e he => by obtain ⟨y, _, h1, _⟩ := hk e he; rw [h1]; exact equal_p2 x y w)
  have ho : (getObj b).run Try.prog w = .ok (.map es clock) w := by simp [getObj, Sem.run, hb]
  have hz : (zeroValue 4).run Try.prog w = .ok (.bool false) w := by kernel_rfl
  unfold Instr.lookup
  simp only [Sem.run_bind, run_underlying Try.underlying141, Result.andThen_ok, ho, Sem.run_pure, und_p2, hf]
  by_cases hx : x ∈ ks
  · obtain ⟨e, he, h1⟩ := MapP.back hm x hx
    obtain ⟨j, e2, h2, h3⟩ := fk_some' (p := fun v => decide (x = p2Of v)) (es := es.toList) 0 ⟨e, he, by rw [h1]; simp [p2Of_agg]⟩
    rw [h2]
    obtain ⟨_, _, _, h4⟩ := hk e2 h3
    simp [hx, h4]
  · rw [fk_none' 0 (fun e he => by
      obtain ⟨y, hy, h1, _⟩ := hk e he
      rw [h1]
      have : x ≠ y := fun e => hx (e ▸ hy)
      exact decide_eq_false this)]
    simp [hx, hz]

theorem mapp_update {w : World} {b : Nat} {ks : List (Int × Int)} (h : MapP w b ks) (x : Int × Int) (hx : x ∉ ks) :
    ∃ w', (Instr.mapUpdate 141 (.map (some b)) (pairV x) (.bool true)).run Try.prog w = .ok () w' ∧ MapP w' b (ks ++ [x]) ∧ w.grownBy w' (some b) ∧ w'.heap.size = w.heap.size := by
  obtain ⟨es, clock, hb, hm⟩ := h
  have hk := MapP.key hm
  have hf := run_findKeyA (P := Try.prog) (w := w) (K := 82) Try.underlying82 (k := pairV x) (p := fun v => decide (x = p2Of v)) es.toList (fun e he => by obtain ⟨y, _, h1, _⟩ := hk e he; rw [h1]; exact equal_p2 x y w)
  have hn : fk (fun v => decide (x = p2Of v)) es.toList 0 = none := fk_none' 0 (fun e he => by
      obtain ⟨y, hy, h1, _⟩ := hk e he
      rw [h1]
      have : x ≠ y := fun e => hx (e ▸ hy)
      exact decide_eq_false this)
  have ho : (getObj b).run Try.prog w = .ok (.map es clock) w := by simp [getObj, Sem.run, hb]
  have hr : (Instr.mapUpdate 141 (.map (some b)) (pairV x) (.bool true)).run Try.prog w = .ok () { w with heap := w.heap.setIfInBounds b (.map (es.push { key := pairV x, val := .bool true, born := clock }) (clock + 1)) } := by
    unfold Instr.mapUpdate
    simp only [Sem.run_bind, run_underlying Try.underlying141, Result.andThen_ok, ho, Sem.run_pure, und_p2, hf, hn]
    simp [setObj, Sem.run, hb]
  have hlt := blk_lt hb
  refine ⟨_, hr, ⟨_, _, by simp [hlt]; exact ⟨rfl, rfl⟩, by simp [hm]⟩, ⟨rfl, rfl, rfl, by simp, fun k hk1 hk2 => ?_⟩, by simp⟩
  have : b ≠ k := fun e => hk2 (by rw [e])
  simp [this]

theorem MapP.new (w : World) : MapP (w.alloc (.map #[] 0)) w.heap.size [] := ⟨#[], 0, blk_new _ _, rfl⟩

theorem MapP.below {w w' : World} {b : Nat} {ks : List (Int × Int)} (h : MapP w b ks) (hb : Below w.heap.size w w') : MapP w' b ks := by
  obtain ⟨es, clock, h1, h2⟩ := h
  exact ⟨es, clock, blk_below hb (blk_lt h1) h1, h2⟩

theorem MapP.lt {w : World} {b : Nat} {ks : List (Int × Int)} (h : MapP w b ks) : b < w.heap.size := by
  obtain ⟨es, clock, h1, h2⟩ := h; exact blk_lt h1

theorem MapP.chgne {w w' : World} {b : Nat} {ks : List (Int × Int)} {row : Option Nat} (h : MapP w b ks) (hg : w.grownBy w' row) (hr : row ≠ some b) : MapP w' b ks := by
  obtain ⟨es, clock, h1, h2⟩ := h
  exact ⟨es, clock, by rw [hg.block b (blk_lt h1) (fun e => hr e.symm)]; exact h1, h2⟩

theorem MapP.nocell {w : World} {b : Nat} {ks : List (Int × Int)} (h : MapP w b ks) {cs : Array Value} {t : TypeId} {fz : Nat × Nat} : w.heap[b]? ≠ some (.cells cs t fz) := by
  obtain ⟨es, clock, h1, _⟩ := h
  rw [h1]; intro e; cases e

theorem own_nomapp {w : World} {base : Nat} {e : TypeId} {size : Nat} {v : Value} {n : Nat} {xs : List Value} (h : w.ownsRow base e size v n xs) {b : Nat} {ks : List (Int × Int)} (hm : MapP w b ks) : v.ownBlock ≠ some b := by
  intro hb
  rcases h.2 with ⟨rfl, _⟩ | ⟨g, cap, cur, rfl, _, hg, _⟩
  · cases hb
  · cases hb; exact hm.nocell hg

theorem elem_p2 : ElemOf Try.prog 139 82 (.agg #[.int .i64 0, .int .i64 0]) 2 16 :=
  ⟨by kernel_rfl, info_parts (by kernel_rfl), rfl, by omega⟩

theorem elem_bsss : ElemOf Try.prog 140 40 (.slice none 0 0) 1 24 :=
  ⟨by kernel_rfl, info_parts (by kernel_rfl), rfl, by omega⟩

set_option maxHeartbeats 800000 in
theorem cloneB_any (s : Option Addr) (cap : Nat) (bs : List Bool) (w : World) (h : Sl w s (bools bs)) (hl : bs.length ≤ 1000) :
    Calls Try.prog 142 #[.slice s bs.length cap] w fun e w' => ∃ s' c', e = .returned (.slice s' bs.length c') ∧ w'.ownsRow w.heap.size 4 1 (.slice s' bs.length c') bs.length (bools bs) ∧ Below w.heap.size w w' := by
  have hnil : ∀ (W : World) (g : Option Addr) (n c : Nat), (binOp .eql 39 (.slice g n c) (.slice none 0 0)).run Try.prog W = .ok (.bool g.isNone) W := fun W g n c => Lib.run_eql_slice_nil W _ 4 _ n c 0 0 (by kernel_rfl)
  cases s with
  | none =>
    obtain rfl : bs = [] := by
      rcases h with h | ⟨b, off, e, _⟩
      · simpa [bools] using h
      · cases e
    have hn := fun W n c => hnil W none n c
    clear hnil
    simp only [Option.isNone_none] at hn
    go_enter Try.func142, Try.ntmps142
    go_wp2
    go_ret
    exact ⟨none, 0, rfl, World.ownsRow_nil _ _ _ _, Below.refl _ _⟩
  | some ad =>
    have hn := fun W n c => hnil W (some ad) n c
    clear hnil
    simp only [Option.isNone_some] at hn
    have hA := (Below.refl w.heap.size w).alloc (Nat.le_refl _) (.cells #[] 4)
    have ho : (w.alloc (.cells #[] 4)).ownsRow w.heap.size 4 1 (.slice (some ⟨w.heap.size, 0, none⟩) 0 0) 0 [] := own_of_blk (n := 0) (cur := #[]) (blk_new w _) (Nat.le_refl _) (by simp) (by unfold maxLen; omega)
    have HO := Lib.hid (And.intro ho (And.intro hA (h.mono hA)))
    clear ho hA h
    go_enter Try.func142, Try.ntmps142
    go_wp2_with (at_builtin; refine wpl_app rfl _ _ rfl elem_bool HO.out.1 rfl rfl (by simp [bools]) HO.out.2.2 (bools_one bs) bs.length (Nat.zero_add _) (bools bs) rfl (by unfold maxLen; omega) (by omega) (by simp) ?_; intro s3 c3 w3 h3 hb3 _ _; have HA := Lib.hid (And.intro h3 (HO.out.2.1.trans hb3)); clear h3 hb3)
    go_ret
    exact ⟨s3, c3, rfl, HA.out.1, HA.out.2⟩

set_option maxHeartbeats 800000 in
theorem cloneBB_any (s : Option Addr) (cap : Nat) (bs : List Value) (w : World) (h : Sl w s bs) (h1 : ∀ u ∈ bs, u.oneCell' = true) (hl : bs.length ≤ 1000) :
    Calls Try.prog 141 #[.slice s bs.length cap] w fun e w' => ∃ s' c', e = .returned (.slice s' bs.length c') ∧ w'.ownsRow w.heap.size 39 1 (.slice s' bs.length c') bs.length bs ∧ Below w.heap.size w w' := by
  have hnil : ∀ (W : World) (g : Option Addr) (n c : Nat), (binOp .eql 40 (.slice g n c) (.slice none 0 0)).run Try.prog W = .ok (.bool g.isNone) W := fun W g n c => Lib.run_eql_slice_nil W _ 39 _ n c 0 0 (by kernel_rfl)
  cases s with
  | none =>
    obtain rfl : bs = [] := by
      rcases h with h | ⟨b, off, e, _⟩
      · exact h
      · cases e
    have hn := fun W n c => hnil W none n c
    clear hnil
    simp only [Option.isNone_none] at hn
    go_enter Try.func141, Try.ntmps141
    go_wp2
    go_ret
    exact ⟨none, 0, rfl, World.ownsRow_nil _ _ _ _, Below.refl _ _⟩
  | some ad =>
    have hn := fun W n c => hnil W (some ad) n c
    clear hnil
    simp only [Option.isNone_some] at hn
    have hA := (Below.refl w.heap.size w).alloc (Nat.le_refl _) (.cells #[] 39)
    have ho : (w.alloc (.cells #[] 39)).ownsRow w.heap.size 39 1 (.slice (some ⟨w.heap.size, 0, none⟩) 0 0) 0 [] := own_of_blk (n := 0) (cur := #[]) (blk_new w _) (Nat.le_refl _) (by simp) (by unfold maxLen; omega)
    have HO := Lib.hid (And.intro ho (And.intro hA (h.mono hA)))
    clear ho hA h
    go_enter Try.func141, Try.ntmps141
    go_wp2_with (at_builtin; refine wpl_app rfl _ _ rfl elem_bss2 HO.out.1 rfl rfl (by simp) HO.out.2.2 h1 bs.length (Nat.zero_add _) bs rfl (by unfold maxLen; omega) (by omega) (by simp) ?_; intro s3 c3 w3 h3 hb3 _ _; have HA := Lib.hid (And.intro h3 (HO.out.2.1.trans hb3)); clear h3 hb3)
    go_ret
    exact ⟨s3, c3, rfl, HA.out.1, HA.out.2⟩

set_option maxHeartbeats 400000 in
theorem bitsOf_own (x : Int) (n : Nat) (w : World) (h0 : 0 ≤ x) (h1 : x ≤ 1000000) (hn : n ≤ 20) :
    Calls Try.prog 139 #[.int .i64 x, .int .i64 n] w fun e w' => ∃ s, e = .returned (.slice s n n) ∧ w'.ownsRow w.heap.size 4 1 (.slice s n n) n (bools (bitsV x n)) ∧ Below w.heap.size w w' := by
  have hmk := fun w => mkBools w n (by omega)
  go_enter Try.func139, Try.ntmps139
  go_wp2
  go_loopw [11] (fun i wr => ∃ k : Nat, k ≤ n ∧ i = .int .i64 k ∧ wr.heap[w.heap.size]? = some (.cells (bools (bitsV x k ++ List.replicate (n - k) false)).toArray 4 (0, 0)) ∧ Below w.heap.size w wr) (fun i _ => n - (intOf i).toNat)
  case atStart => exact ⟨0, Nat.zero_le _, rfl, blk_new _ _, (Below.refl _ _).alloc (Nat.le_refl _) _⟩
  case round =>
    obtain ⟨k, hk, rfl, hb, hbl⟩ := hrel
    by_cases hlt : k < n
    · have hlen : (bitsV x k ++ List.replicate (n - k) false).length = n := by simp [bitsV_length]; omega
      obtain ⟨y, hy⟩ := get_of_lt (l := bitsV x k ++ List.replicate (n - k) false) (k := k) (by omega)
      have hc := bools_cell hb hy
      have hf : wr.frozen? ⟨w.heap.size, k, none⟩ = false := blk_free hb
      have hpw : (1 : Int) ≤ 2 ^ k := by have : (0 : Int) < 2 ^ k := Int.pow_pos (by decide); omega
      have q1 : 0 ≤ x / 2 ^ k := Int.ediv_nonneg h0 (by omega)
      have q2 : x / 2 ^ k ≤ 1000000 := Int.le_trans (Int.ediv_le_self _ h0) h1
      have hand := i64_and1 (x / 2 ^ k)
      have HR := Lib.hid (And.intro hb (And.intro hbl hpw))
      clear hb hbl hpw hy hlen
      go_wp2
      obtain ⟨hb, hbl, hpw⟩ := HR.out
      go_roundw
      case rel =>
        refine ⟨k + 1, by omega, by go_num, ?_, hbl.setCell (Nat.le_refl _) _⟩
        have := bools_blk_set hb k (decide (x / 2 ^ k % 2 = 1))
        rw [List.set_append_right _ _ (by rw [bitsV_length]; exact Nat.le_refl _), bitsV_length, Nat.sub_self, show n - k = n - (k + 1) + 1 from by omega, List.replicate_succ, List.set_cons_zero] at this
        rw [bitsV_snoc, List.append_assoc]
        exact this
      case measure => simp [intOf]; omega
    · obtain rfl : k = n := by omega
      rw [Nat.sub_self] at hb
      have HR := Lib.hid (And.intro hb hbl)
      clear hb hbl
      go_wp2
      go_ret
      refine ⟨_, rfl, ?_, HR.out.2⟩
      have e := own_of_blk (base := w.heap.size) (size := 1) (n := k) HR.out.1 (Nat.le_refl _) (by simp [bitsV_length]) (by unfold maxLen; omega)
      simpa using e

/-- The step of both circuits. -/
theorem differ_any (a b : Cir) (ba bb : Nat) (sn sg so tn tg to_ : Option Addr) (cn cg co dn dg do_ : Nat) (p q : Int) (x : Nat) (w : World)
    (ha : CirAt w ba a.inp (.slice sn a.next.length cn) (.slice sg a.gates.length cg) (.slice so a.outs.length co)) (a1 : Sl w sn (ints a.next)) (a2 : Sl w sg (gcells a.gates)) (a3 : Sl w so (ints a.outs)) (hva : a.valid)
    (hb : CirAt w bb b.inp (.slice tn b.next.length dn) (.slice tg b.gates.length dg) (.slice to_ b.outs.length do_)) (b1 : Sl w tn (ints b.next)) (b2 : Sl w tg (gcells b.gates)) (b3 : Sl w to_ (ints b.outs)) (hvb : b.valid)
    (p0 : 0 ≤ p) (p1 : p ≤ 100) (q0 : 0 ≤ q) (q1 : q ≤ 100) (hx : x ≤ 100) :
    Calls Try.prog 103 #[pairV (p, q), .int .i64 x, .pointer (some ⟨ba, 0, none⟩), .pointer (some ⟨bb, 0, none⟩)] w fun e w' => e = .returned (.tuple #[pairV (stpD a b (p, q) x), .bool (hitD a b (p, q) x)]) ∧ Below w.heap.size w w' := by
  have HBA : Hid (ba < w.heap.size) := World.block_lt_of_cell? w _ ha.h0
  have HBB : Hid (bb < w.heap.size) := World.block_lt_of_cell? w _ hb.h0
  have H1 : Hid (∀ W, Below w.heap.size w W → Calls Try.prog 104 #[.pointer (some ⟨ba, 0, none⟩), .int .i64 p, .int .i64 x] W fun e w' => e = .returned (.tuple #[.int .i64 (nextN a p x), .int .i64 (outN a p x)]) ∧ Below W.heap.size W w') := fun W hW =>
    cycle_any ba sn sg so cn cg co a p x W ⟨(hW.cell (p := ⟨ba, 0, none⟩) HBA.out).trans ha.h0, (hW.cell (p := ⟨ba, 1, none⟩) HBA.out).trans ha.h1, (hW.cell (p := ⟨ba, 2, none⟩) HBA.out).trans ha.h2, (hW.cell (p := ⟨ba, 3, none⟩) HBA.out).trans ha.h3⟩ (a1.mono hW) (a2.mono hW) (a3.mono hW) hva p0 (by omega) (by omega) (by omega)
  have H2 : Hid (∀ W, Below w.heap.size w W → Calls Try.prog 104 #[.pointer (some ⟨bb, 0, none⟩), .int .i64 q, .int .i64 x] W fun e w' => e = .returned (.tuple #[.int .i64 (nextN b q x), .int .i64 (outN b q x)]) ∧ Below W.heap.size W w') := fun W hW =>
    cycle_any bb tn tg to_ dn dg do_ b q x W ⟨(hW.cell (p := ⟨bb, 0, none⟩) HBB.out).trans hb.h0, (hW.cell (p := ⟨bb, 1, none⟩) HBB.out).trans hb.h1, (hW.cell (p := ⟨bb, 2, none⟩) HBB.out).trans hb.h2, (hW.cell (p := ⟨bb, 3, none⟩) HBB.out).trans hb.h3⟩ (b1.mono hW) (b2.mono hW) (b3.mono hW) hvb q0 (by omega) (by omega) (by omega)
  obtain ⟨W0, hW0⟩ : ∃ W0, W0 = ((w.alloc (.cells #[.int .i64 p, .int .i64 q] 82)).alloc (.cells #[.int .i64 0, .int .i64 0] 82)) := ⟨_, rfl⟩
  have z1 : W0.heap[w.heap.size]? = some (.cells #[.int .i64 p, .int .i64 q] 82 (0, 0)) := by rw [hW0]; exact blk_old (blk_new _ _)
  have z2 : W0.heap[w.heap.size + 1]? = some (.cells #[.int .i64 0, .int .i64 0] 82 (0, 0)) := by rw [hW0]; exact blk_at (by simp)
  have z3 : Below w.heap.size w W0 := by rw [hW0]; go_grown
  obtain ⟨na, hna⟩ : ∃ z, z = nextN a p x := ⟨_, rfl⟩
  obtain ⟨nb, hnb⟩ : ∃ z, z = nextN b q x := ⟨_, rfl⟩
  obtain ⟨oa, hoa⟩ : ∃ z, z = outN a p x := ⟨_, rfl⟩
  obtain ⟨ob, hob⟩ : ∃ z, z = outN b q x := ⟨_, rfl⟩
  have e1 : pairV (stpD a b (p, q) x) = .agg #[.int .i64 na, .int .i64 nb] := by rw [hna, hnb]; rfl
  have e2 : hitD a b (p, q) x = !decide (oa = ob) := by rw [hoa, hob]; rfl
  rw [e1, e2]
  have HN := Lib.hid (And.intro hna (And.intro hnb (And.intro hoa hob)))
  have HW := Lib.hid (And.intro hW0 (And.intro z1 (And.intro z2 z3)))
  clear ha a1 a2 a3 hb b1 b2 b3 hW0 z1 z2 z3 hna hnb hoa hob e1 e2
  show Calls Try.prog (103) #[.agg #[.int .i64 p, .int .i64 q], .int .i64 x, .pointer (some ⟨ba, 0, none⟩), .pointer (some ⟨bb, 0, none⟩)] w _
  go_enter Try.func103, Try.ntmps103
  go_upto_region 1 with fail
  rw [← HW.out.1]
  have cp := (blk_all HW.out.2.1).1
  go_upto_region 2 with (go_at_call 104; ((with_reducible refine (H1.out _ HW.out.2.2.2).mono ?_); rintro e w1 ⟨rfl, hq⟩; rw [← HN.out.1, ← HN.out.2.2.1]; have K1 := Lib.hid (And.intro (blk_below hq (blk_lt HW.out.2.1) HW.out.2.1) (And.intro (blk_below hq (blk_lt HW.out.2.2.1) HW.out.2.2.1) (HW.out.2.2.2.trans (hq.mono HW.out.2.2.2.size)))); clear hq cp; have cp := (blk_all K1.out.1).1))
  go_upto_region 3 with (go_at_call 104; ((with_reducible refine (H2.out _ K1.out.2.2).mono ?_); rintro e w2 ⟨rfl, hq⟩; rw [← HN.out.2.1, ← HN.out.2.2.2]; have K2 := Lib.hid (And.intro (blk_below hq (blk_lt K1.out.2.1) K1.out.2.1) (K1.out.2.2.trans (hq.mono K1.out.2.2.size))); clear hq cp; obtain ⟨rc, rf⟩ := blk_all K2.out.1))
  go_wp2_with fail
  clear rc rf
  have hZ : ((w2.setCell ⟨w.heap.size + 1, 0, none⟩ (.int .i64 na)).setCell ⟨w.heap.size + 1, 1, none⟩ (.int .i64 nb)).heap[w.heap.size + 1]? = some (.cells #[.int .i64 na, .int .i64 nb] 82 (0, 0)) := by
    simpa using blk_set (o := 1) (v := .int .i64 nb) (blk_set (o := 0) (v := .int .i64 na) K2.out.1)
  have hbz := (K2.out.2.setCell (p := ⟨w.heap.size + 1, 0, none⟩) (by simp) (.int .i64 na)).setCell (p := ⟨w.heap.size + 1, 1, none⟩) (by simp) (.int .i64 nb)
  revert hZ hbz
  generalize ((w2.setCell ⟨w.heap.size + 1, 0, none⟩ (.int .i64 na)).setCell ⟨w.heap.size + 1, 1, none⟩ (.int .i64 nb)) = WZ
  intro hZ hbz
  have cr := (blk_all hZ).1
  exact bodyPost_ret (v := .tuple #[.agg #[.int .i64 na, .int .i64 nb], .bool (!decide (oa = ob))]) (by simp [results, Try.results103, go_sem, cr]; by_cases h : oa = ob <;> simp [h]) rfl ⟨rfl, hbz⟩

end Go.Proofs.Ytbcolcchchgldaa
