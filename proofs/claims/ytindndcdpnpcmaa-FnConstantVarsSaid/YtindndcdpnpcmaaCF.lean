import Derived.Test.YtindndcdpnpcmaaCD
import Derived.Test.YtindndcdpnpcmaaQ1
namespace Go.Proofs.Ytindndcdpnpcmaa
set_option linter.unusedVariables false
set_option linter.unusedSimpArgs false
open Go.RowKit

/-! Satisfy of the program. -/

theorem litSign_any (s : Option Addr) (vs : List Int) (cap : Nat) (n : Int) (w : World) (h : Sl w s (ints vs)) (hv : WV vs) (hn : lit25 n) :
    Calls Try.prog 144 #[.slice s 26 cap, .int .i64 n] w fun e w' => e = .returned (.int .i64 (litV vs n)) ∧ w = w' := by
  obtain ⟨q, q1, q2, q3⟩ := setL_var hn
  obtain ⟨x, hx⟩ := get_of_lt (l := vs) (k := q) (by rw [hv.len]; exact q2)
  obtain ⟨x1, x2⟩ := hv.mem hx
  obtain ⟨b, off, rfl, hbw, hz⟩ := h.int (Below.refl _ _) hx
  have H := Lib.hid (And.intro hx hv)
  clear hx hv h hn
  rcases q3 with ⟨q3, rfl⟩ | ⟨q3, rfl⟩
  · rw [litV_neg (by omega) H.out.1]
    go_enter Try.func144, Try.ntmps144
    go_wp2
    go_ret
    exact ⟨rfl, rfl⟩
  · rw [litV_pos H.out.1]
    go_enter Try.func144, Try.ntmps144
    go_wp2
    go_ret
    exact ⟨rfl, rfl⟩

def un1 (vs c : List Int) (u : Int) : Prop := (u = 0 ∧ ∀ n ∈ c, litV vs n = -1) ∨ (u ≠ 0 ∧ u ∈ c ∧ litV vs u = 0 ∧ ∀ n ∈ c, n ≠ u → litV vs n = -1)
theorem un1_nil (vs : List Int) : un1 vs [] 0 := .inl ⟨rfl, by simp⟩
theorem un1_false {vs c : List Int} {u n : Int} {k : Nat} (h : un1 vs (c.take k) u) (hn : c[k]? = some n) (hv : litV vs n = -1) : un1 vs (c.take (k + 1)) u := by
  have e : c.take (k + 1) = c.take k ++ [n] := by rw [List.take_add_one, hn]; rfl
  rw [e]
  rcases h with ⟨h2, h3⟩ | ⟨h1, h2, h3, h4⟩
  · exact .inl ⟨h2, fun m hm => by rcases List.mem_append.1 hm with hm | hm; exact h3 m hm; simp at hm; subst hm; exact hv⟩
  · exact .inr ⟨h1, List.mem_append_left _ h2, h3, fun m hm hne => by rcases List.mem_append.1 hm with hm | hm; exact h4 m hm hne; simp at hm; subst hm; exact hv⟩
theorem un1_open {vs c : List Int} {u n : Int} {k : Nat} (h : un1 vs (c.take k) u) (hn : c[k]? = some n) (hv : litV vs n = 0) (h0 : n ≠ 0) (hu : u = 0 ∨ u = n) : un1 vs (c.take (k + 1)) n := by
  have e : c.take (k + 1) = c.take k ++ [n] := by rw [List.take_add_one, hn]; rfl
  rw [e]
  refine .inr ⟨h0, List.mem_append_right _ (by simp), hv, fun m hm hne => ?_⟩
  rcases List.mem_append.1 hm with hm | hm
  · rcases h with ⟨h2, h3⟩ | ⟨h1, h2, h3, h4⟩
    · exact h3 m hm
    · rcases hu with hu | hu
      · exact absurd hu h1
      · exact h4 m hm (by rw [hu]; exact hne)
  · simp at hm; exact absurd hm hne
/-- What a clause asks for. -/
def unP (vs c : List Int) (l : Int) (ok : Bool) : Prop :=
  (ok = false ∧ l = 0 ∧ ∀ n ∈ c, litV vs n = -1) ∨ (ok = true ∧ l = 0 ∧ okC vs c) ∨ (ok = true ∧ l ≠ 0 ∧ l ∈ c ∧ litV vs l = 0 ∧ ∀ n ∈ c, n ≠ l → litV vs n = -1)
def UnPost (vs c : List Int) (w : World) (e : Ending) (w' : World) : Prop := ∃ (l : Int) (ok : Bool), e = .returned (.tuple #[.int .i64 l, .bool ok]) ∧ unP vs c l ok ∧ w = w'

set_option maxHeartbeats 1600000 in
theorem unit_any (s sc : Option Addr) (vs c : List Int) (cap cc : Nat) (w : World) (h : Sl w s (ints vs)) (hv : WV vs) (hc : Sl w sc (ints c)) (h25 : ∀ n ∈ c, lit25 n) (hl : c.length ≤ 3) :
    Calls Try.prog 139 #[.slice sc c.length cc, .slice s 26 cap] w (UnPost vs c w) := by
  have H : Hid (Sl w s (ints vs) ∧ WV vs ∧ Sl w sc (ints c) ∧ ∀ n ∈ c, lit25 n) := ⟨h, hv, hc, h25⟩
  clear h hv hc h25
  go_enter Try.func139, Try.ntmps139
  go_wp2_with fail
  go_loop [6, 12] (fun v6 v12 => ∃ (k : Nat) (u : Int), k ≤ c.length ∧ v12 = .int .i64 k ∧ v6 = .int .i64 u ∧ un1 vs (c.take k) u) (fun _ v12 => c.length - (intOf v12).toNat)
  case atStart => exact ⟨0, 0, Nat.zero_le _, rfl, rfl, un1_nil _⟩
  case round =>
    obtain ⟨k, u, hk, rfl, rfl, hp⟩ := hrel
    have HP := Lib.hid hp
    clear hp
    by_cases hlt : k < c.length
    · obtain ⟨n, hn⟩ := get_of_lt hlt
      have hn25 := H.out.2.2.2 n (List.mem_of_getElem? hn)
      obtain ⟨n0, n1, n2⟩ := id hn25
      obtain ⟨b, off, rfl, hbw, hz⟩ := H.out.2.2.1.int (Below.refl _ _) hn
      have htri := litV_tri H.out.2.1 n
      obtain ⟨x, hx⟩ : ∃ x, x = litV vs n := ⟨_, rfl⟩
      rw [← hx] at htri
      have HN := Lib.hid (And.intro hn (And.intro hx (And.intro hn25 n0)))
      clear hn hx hn25 n0
      rcases htri with rfl | rfl | rfl
      · by_cases hu0 : u = 0
        · subst hu0
          go_wp2_with (go_at_call 144; ((with_reducible refine (litSign_any s vs _ n _ H.out.1 H.out.2.1 HN.out.2.2.1).mono ?_); rintro e w1 ⟨rfl, rfl⟩; rw [← HN.out.2.1]))
          go_round
          case rel => exact ⟨k + 1, n, by omega, by go_num, rfl, un1_open HP.out HN.out.1 HN.out.2.1.symm HN.out.2.2.2 (.inl rfl)⟩
          case measure => simp [intOf]; omega
        · by_cases hun : u = n
          · subst hun
            have hb1 : (u != 0) = true := by simpa using hu0
            have hb2 : (u != u) = false := by simp
            go_wp2_with (go_at_call 144; ((with_reducible refine (litSign_any s vs _ u _ H.out.1 H.out.2.1 HN.out.2.2.1).mono ?_); rintro e w1 ⟨rfl, rfl⟩; rw [← HN.out.2.1]))
            go_round
            case rel => exact ⟨k + 1, u, by omega, by go_num, rfl, un1_open HP.out HN.out.1 HN.out.2.1.symm HN.out.2.2.2 (.inr rfl)⟩
            case measure => simp [intOf]; omega
          · have hb1 : (u != 0) = true := by simpa using hu0
            have hb2 : (u != n) = true := by simpa using hun
            go_wp2_with (go_at_call 144; ((with_reducible refine (litSign_any s vs _ n _ H.out.1 H.out.2.1 HN.out.2.2.1).mono ?_); rintro e w1 ⟨rfl, rfl⟩; rw [← HN.out.2.1]))
            exact bodyPost_ret (v := .tuple #[.int .i64 0, .bool true]) (by simp [results, Try.results139, go_sem]) rfl ⟨0, true, rfl, .inr (.inl ⟨rfl, rfl, n, List.mem_of_getElem? HN.out.1, .inr HN.out.2.1.symm⟩), rfl⟩
      · go_wp2_with (go_at_call 144; ((with_reducible refine (litSign_any s vs _ n _ H.out.1 H.out.2.1 HN.out.2.2.1).mono ?_); rintro e w1 ⟨rfl, rfl⟩; rw [← HN.out.2.1]))
        exact bodyPost_ret (v := .tuple #[.int .i64 0, .bool true]) (by simp [results, Try.results139, go_sem]) rfl ⟨0, true, rfl, .inr (.inl ⟨rfl, rfl, n, List.mem_of_getElem? HN.out.1, .inl HN.out.2.1.symm⟩), rfl⟩
      · go_wp2_with (go_at_call 144; ((with_reducible refine (litSign_any s vs _ n _ H.out.1 H.out.2.1 HN.out.2.2.1).mono ?_); rintro e w1 ⟨rfl, rfl⟩; rw [← HN.out.2.1]))
        go_round
        case rel => exact ⟨k + 1, u, by omega, by go_num, rfl, un1_false HP.out HN.out.1 HN.out.2.1.symm⟩
        case measure => simp [intOf]; omega
    · obtain rfl : k = c.length := by omega
      have hp := HP.out
      rw [List.take_length] at hp
      rcases hp with ⟨rfl, hq⟩ | ⟨hu0, hq⟩
      · have HQ := Lib.hid hq
        clear hq
        go_wp2_with fail
        exact bodyPost_ret (v := .tuple #[.int .i64 0, .bool false]) (by simp [results, Try.results139, go_sem]) rfl ⟨0, false, rfl, .inl ⟨rfl, rfl, HQ.out⟩, rfl⟩
      · have HQ := Lib.hid (And.intro hu0 hq)
        have hb1 : (u != 0) = true := by simpa using hu0
        clear hq
        go_wp2_with fail
        exact bodyPost_ret (v := .tuple #[.int .i64 u, .bool true]) (by simp [results, Try.results139, go_sem]) rfl ⟨u, true, rfl, .inr (.inr ⟨rfl, HQ.out⟩), rfl⟩

theorem assign_any (G : Nat) (vs : List Int) (n : Int) (w : World) (h : w.heap[G]? = some (.cells (ints vs).toArray 3 (0, 0))) (hv : WV vs) (hn : lit25 n) :
    Calls Try.prog 140 #[.slice (some ⟨G, 0, none⟩) 26 26, .int .i64 n] w fun e w' => e = .returned (.tuple #[]) ∧ w'.heap[G]? = some (.cells (ints (setL vs n)).toArray 3 (0, 0)) ∧ Chg (fun k => k = G) w w' := by
  obtain ⟨q, q1, q2, q3⟩ := setL_var hn
  obtain ⟨x, hx⟩ := get_of_lt (l := vs) (k := q) (by rw [hv.len]; exact q2)
  have z1 := ints_cell h hx
  have z2 : w.frozen? ⟨G, q, none⟩ = false := blk_free h
  have hch : ∀ v : Int, Chg (fun k => k = G) w (w.setCell ⟨G, q, none⟩ (.int .i64 v)) := fun v => ⟨rfl, rfl, rfl, by simp, fun k hk hne => blk_set_ne (Ne.symm hne) rfl⟩
  have H := Lib.hid (And.intro h hch)
  clear h hv hn hx hch
  rcases q3 with ⟨q3, rfl⟩ | ⟨q3, rfl⟩
  · have e : setL vs (-(q : Int)) = vs.set q (-1) := by unfold setL; rw [if_pos q3]; simp
    rw [e]
    clear e
    go_enter Try.func140, Try.ntmps140
    go_wp2
    exact bodyPost_end (v := .tuple #[]) (by simp [results, Try.results140, go_sem]) rfl ⟨rfl, ints_blk_set H.out.1 q (-1), H.out.2 _⟩
  · have e : setL vs (q : Int) = vs.set q 1 := by unfold setL; rw [if_neg (by omega)]; simp
    rw [e]
    clear e
    go_enter Try.func140, Try.ntmps140
    go_wp2
    exact bodyPost_end (v := .tuple #[]) (by simp [results, Try.results140, go_sem]) rfl ⟨rfl, ints_blk_set H.out.1 q 1, H.out.2 _⟩

def tvar (l : Int) : Nat := if l < 0 then (-l).toNat else l.toNat
theorem tvar_lt {l : Int} (h : lit25 l) : 1 ≤ tvar l ∧ tvar l < 26 := by
  obtain ⟨h0, h1, h2⟩ := h
  unfold tvar; split <;> omega
theorem tvar_val {vs : List Int} {l : Int} (h : litV vs l = 0) : vs.getD (tvar l) 0 = 0 := by
  unfold litV at h; unfold tvar
  split at h
  · rename_i e; rw [if_pos e]; omega
  · rename_i e; rw [if_neg e]; exact h
theorem setL_get {vs : List Int} {l : Int} (hv : WV vs) (h : lit25 l) (i : Nat) : (setL vs l).getD i 0 = if tvar l = i then (if l < 0 then -1 else 1) else vs.getD i 0 := by
  have hl := hv.len
  obtain ⟨h0, h1, h2⟩ := h
  unfold setL tvar
  by_cases e : l < 0
  · rw [if_pos e, if_pos e, if_pos e, getD_set _ _ _ _ (by omega)]
  · rw [if_neg e, if_neg e, if_neg e, getD_set _ _ _ _ (by omega)]
/-- The trail: what has been assigned. -/
structure TR (vs us tr : List Int) : Prop where
  wv : WV vs
  wu : WV us
  lits : ∀ l ∈ tr, lit25 l
  same : ∀ i, us.getD i 0 = vs.getD i 0 ∨ ∃ l ∈ tr, tvar l = i
  old : ∀ l ∈ tr, vs.getD (tvar l) 0 = 0
  new : ∀ l ∈ tr, us.getD (tvar l) 0 ≠ 0
  few : tr.length + zc us = zc vs
theorem TR.nil {vs : List Int} (h : WV vs) : TR vs vs [] := ⟨h, h, by simp, fun i => .inl rfl, by simp, by simp, by simp⟩
theorem TR.push {vs us tr : List Int} {l : Int} (h : TR vs us tr) (hl : lit25 l) (h0 : litV us l = 0) : TR vs (setL us l) (tr ++ [l]) := by
  have hz := tvar_val h0
  refine ⟨h.wv, h.wu.putL hl, fun m hm => ?_, fun i => ?_, fun m hm => ?_, fun m hm => ?_, ?_⟩
  · rcases List.mem_append.1 hm with hm | hm
    · exact h.lits m hm
    · simp at hm; rw [hm]; exact hl
  · rw [setL_get h.wu hl]
    by_cases e : tvar l = i
    · exact .inr ⟨l, by simp, e⟩
    · rw [if_neg e]
      rcases h.same i with h1 | ⟨m, h1, h2⟩
      · exact .inl h1
      · exact .inr ⟨m, List.mem_append_left _ h1, h2⟩
  · rcases List.mem_append.1 hm with hm | hm
    · exact h.old m hm
    · simp at hm; subst hm
      rcases h.same (tvar m) with h1 | ⟨k, h1, h2⟩
      · rw [← h1]; exact hz
      · exact absurd (by rw [h2]; exact hz) (h.new k h1)
  · rw [setL_get h.wu hl]
    by_cases e : tvar l = tvar m
    · rw [if_pos e]; split <;> omega
    · rw [if_neg e]
      rcases List.mem_append.1 hm with hm | hm
      · exact h.new m hm
      · simp at hm; subst hm; exact absurd rfl e
  · have h1 := h.few
    have h2 := zc_setL h.wu hl h0
    simp; omega
theorem getD_ext {a b : List Int} (ha : a.length = 26) (hb : b.length = 26) (h : ∀ i, a.getD i 0 = b.getD i 0) : a = b := by
  refine List.ext_getElem? fun i => ?_
  by_cases hi : i < 26
  · obtain ⟨x, hx⟩ := get_of_lt (l := a) (k := i) (by omega)
    obtain ⟨y, hy⟩ := get_of_lt (l := b) (k := i) (by omega)
    have := h i
    rw [List.getD_eq_getElem?_getD, List.getD_eq_getElem?_getD, hx, hy] at this
    simp at this
    rw [hx, hy, this]
  · rw [List.getElem?_eq_none (by omega), List.getElem?_eq_none (by omega)]
/-- What is left after k assignments have been undone. -/
def unD (us tr ys : List Int) (k : Nat) : Prop := ys.length = 26 ∧ (∀ l ∈ tr.take k, ys.getD (tvar l) 0 = 0) ∧ ∀ i, ys.getD i 0 = us.getD i 0 ∨ (ys.getD i 0 = 0 ∧ ∃ l ∈ tr, tvar l = i)
theorem unD_step {us tr ys : List Int} {k : Nat} {l : Int} (h : unD us tr ys k) (hl : tr[k]? = some l) (h25 : lit25 l) : unD us tr (ys.set (tvar l) 0) (k + 1) := by
  obtain ⟨h1, h2, h3⟩ := h
  have ht := (tvar_lt h25).2
  refine ⟨by simpa using h1, fun m hm => ?_, fun i => ?_⟩
  · rw [getD_set _ _ _ _ (by omega)]
    split
    · rfl
    · rename_i hne
      rw [List.take_add_one, hl] at hm
      rcases List.mem_append.1 hm with hm | hm
      · exact h2 m hm
      · simp at hm; rw [hm] at hne; exact absurd rfl hne
  · rw [getD_set _ _ _ _ (by omega)]
    by_cases e : tvar l = i
    · rw [if_pos e]; exact .inr ⟨rfl, l, List.mem_of_getElem? hl, e⟩
    · rw [if_neg e]; exact h3 i
theorem unD_end {vs us tr ys : List Int} (h : unD us tr ys tr.length) (ht : TR vs us tr) : ys = vs := by
  obtain ⟨h1, h2, h3⟩ := h
  rw [List.take_length] at h2
  refine getD_ext h1 ht.wv.len fun i => ?_
  by_cases hx : ∃ l ∈ tr, tvar l = i
  · obtain ⟨l, hl, rfl⟩ := hx
    rw [h2 l hl, ht.old l hl]
  · rcases h3 i with h | h
    · rcases ht.same i with k | k
      · rw [h, k]
      · exact absurd k hx
    · exact absurd h.2 hx
/-- The state of satisfy in world W. -/
structure SW (w : World) (G P3 P5 : Nat) (us tr : List Int) (vt : Value) (W : World) : Prop where
  g : W.heap[G]? = some (.cells (ints us).toArray 3 (0, 0))
  b3 : W.heap[P3]? = some (.cells #[.slice (some ⟨G, 0, none⟩) 26 26] 22 (0, 0))
  b5 : W.heap[P5]? = some (.cells #[vt] 22 (0, 0))
  ow : W.ownsRow w.heap.size 3 1 vt tr.length (ints tr)
  chg : Chg (fun k => k = G) w W
  hG : G < w.heap.size
  h3 : w.heap.size ≤ P3
  h5 : w.heap.size ≤ P5
theorem SW.putG {w W W' : World} {G P3 P5 : Nat} {us us' tr : List Int} {vt : Value} (h : SW w G P3 P5 us tr vt W) (hc : Chg (fun k => k = G) W W') (hg : W'.heap[G]? = some (.cells (ints us').toArray 3 (0, 0))) : SW w G P3 P5 us' tr vt W' :=
  have e1 := h.hG; have e2 := h.h3; have e3 := h.h5
  ⟨hg, hc.blk h.b3 (by omega), hc.blk h.b5 (by omega), hc.own h.ow (fun k hk hs => by have := (own_blk h.ow hk).1; omega), h.chg.trans hc, h.hG, h.h3, h.h5⟩
theorem SW.below {w W W' : World} {G P3 P5 : Nat} {us tr : List Int} {vt : Value} (h : SW w G P3 P5 us tr vt W) (hb : Below W.heap.size W W') : SW w G P3 P5 us tr vt W' :=
  h.putG (Chg.of_below hb) (blk_below hb (blk_lt h.g) h.g)

set_option maxHeartbeats 800000 in
theorem undo_any (w : World) (G P3 P5 : Nat) (vs us tr : List Int) (st : Option Addr) (ct : Nat) (W : World) (h : SW w G P3 P5 us tr (.slice st tr.length ct) W) (ht : TR vs us tr) (hl : tr.length ≤ 26) :
    Calls Try.prog 138 #[.pointer (some ⟨P5, 0, none⟩), .pointer (some ⟨P3, 0, none⟩)] W fun e w' => e = .returned (.bool false) ∧ w'.heap[G]? = some (.cells (ints vs).toArray 3 (0, 0)) ∧ Chg (fun k => k = G) W w' := by
  have H := Lib.hid (And.intro h ht)
  have c5 : W.cell? ⟨P5, 0, none⟩ = some (.slice st tr.length ct) := blk_cell h.b5
  clear h ht
  go_enter Try.func138, Try.ntmps138
  go_wp2_with fail
  clear c5
  go_loopw [7] (fun v7 wr => ∃ (k : Nat) (ys : List Int), k ≤ tr.length ∧ v7 = .int .i64 k ∧ unD us tr ys k ∧ wr.heap[G]? = some (.cells (ints ys).toArray 3 (0, 0)) ∧ Chg (fun k => k = G) W wr) (fun v7 _ => tr.length - (intOf v7).toNat)
  case atStart => exact ⟨0, us, Nat.zero_le _, rfl, ⟨H.out.2.wu.len, by simp, fun i => .inl rfl⟩, H.out.1.g, Chg.refl _ _⟩
  case round =>
    obtain ⟨k, ys, hk, rfl, hu, hg, hc⟩ := hrel
    by_cases hlt : k < tr.length
    · obtain ⟨l, hlk⟩ := get_of_lt hlt
      have h25 := H.out.2.lits l (List.mem_of_getElem? hlk)
      have hsw := H.out.1.putG hc hg
      have c3 : wr.cell? ⟨P3, 0, none⟩ = some (.slice (some ⟨G, 0, none⟩) 26 26) := blk_cell hsw.b3
      obtain ⟨b, off, rfl, hbw, hz⟩ := (own_sl hsw.ow).int (Below.refl _ _) hlk
      obtain ⟨T, t1, t2, t3⟩ := setL_var h25
      obtain ⟨y, hy⟩ := get_of_lt (l := ys) (k := T) (by rw [hu.1]; exact t2)
      have z1 := ints_cell hg hy
      have z2 : wr.frozen? ⟨G, T, none⟩ = false := blk_free hg
      have hT : tvar l = T := by unfold tvar; rcases t3 with ⟨h1, rfl⟩ | ⟨h1, rfl⟩ <;> split <;> omega
      have hst := unD_step hu hlk h25
      have hbs := ints_blk_set hg T 0
      rw [hT] at hst
      have hc2 : Chg (fun k => k = G) W (wr.setCell ⟨G, T, none⟩ (.int .i64 0)) := hc.trans ⟨rfl, rfl, rfl, by simp, fun k hk hne => blk_set_ne (Ne.symm hne) rfl⟩
      have HQ := Lib.hid (And.intro hst (And.intro hbs hc2))
      clear hlk h25 hsw hbw hy hT hst hbs hc2 hg hc hu
      have hm1 : max (T : Int) (-(T : Int)) = (T : Int) := by omega
      have hm2 : max (-(T : Int)) (T : Int) = (T : Int) := by omega
      rcases t3 with ⟨t3, rfl⟩ | ⟨t3, rfl⟩
      all_goals
        go_wp2_with fail
      all_goals first
        | (exfalso; omega)
        | skip
      all_goals
        go_roundw
      all_goals first
        | (case rel => exact ⟨k + 1, ys.set T 0, by omega, by go_num, HQ.out.1, HQ.out.2.1, HQ.out.2.2⟩)
        | (case measure => simp [intOf]; omega)
    · obtain rfl : k = tr.length := by omega
      have e := unD_end hu H.out.2
      subst e
      have HQ := Lib.hid (And.intro hg hc)
      clear hg hc hu
      go_wp2_with fail
      go_ret
      exact ⟨rfl, HQ.out.1, HQ.out.2⟩

/-! Satisfy of the program: the search. -/

def valsAt (w : World) (G : Nat) : List Int := match w.heap[G]? with | some (.cells arr _ _) => arr.toList.map intOf | _ => []
theorem valsAt_of {w : World} {G : Nat} {us : List Int} {t : TypeId} {fz : Nat × Nat} (h : w.heap[G]? = some (.cells (ints us).toArray t fz)) : valsAt w G = us := by
  unfold valsAt; rw [h]
  simp [ints, intOf, Function.comp_def]
def boolN (v : Value) : Nat := match v with | .bool true => 1 | _ => 0
def SiPost (F : List (List Int)) (vs : List Int) (G : Nat) (w : World) (e : Ending) (w' : World) : Prop :=
  ∃ o : Option (List Int), e = .returned (.bool o.isSome) ∧ w'.heap[G]? = some (.cells (ints (o.getD vs)).toArray 3 (0, 0)) ∧ isRes F vs o ∧ Chg (fun k => k = G) w w'
theorem own_ne_ty' {w : World} {base : Nat} {e t : TypeId} {size : Nat} {v : Value} {n : Nat} {xs : List Value} (h : w.ownsRow base e size v n xs) {b : Nat} {cs : Array Value} {fz : Nat × Nat} (hb : w.heap[b]? = some (.cells cs t fz)) (he : e ≠ t := by decide) : v.ownBlock ≠ some b := by
  intro hk
  rcases h.2 with ⟨rfl, _⟩ | ⟨g, cap, cur, rfl, _, hg, _⟩
  · cases hk
  · cases hk
    rw [hg] at hb
    simp only [Option.some.injEq, Obj.cells.injEq] at hb
    exact he hb.2.1
theorem SW.push {w W W2 : World} {G P3 P5 : Nat} {us tr : List Int} {vt v6 : Value} {l : Int} (h : SW w G P3 P5 us tr vt W) (h6 : W2.ownsRow w.heap.size 3 1 v6 (tr.length + 1) (ints (tr ++ [l]))) (hg : W.grownBy W2 vt.ownBlock) (hob : v6.ownBlock = vt.ownBlock ∨ v6.ownBlock = some W.heap.size) (hne : P3 ≠ P5) :
    W2.heap[P5]? = some (.cells #[vt] 22 (0, 0)) ∧ SW w G P3 P5 us (tr ++ [l]) v6 (W2.setCell ⟨P5, 0, none⟩ v6) := by
  have hc := Chg.of_grown hg
  have n5 : vt.ownBlock ≠ some P5 := own_ne_ty' h.ow h.b5
  have n3 : vt.ownBlock ≠ some P3 := own_ne_ty' h.ow h.b3
  have nG : vt.ownBlock ≠ some G := fun e => by have h1 := (own_blk h.ow e).1; have h2 := h.hG; omega
  have n6 : v6.ownBlock ≠ some P5 := by
    rcases hob with e | e
    · rw [e]; exact n5
    · rw [e]; have := blk_lt h.b5; simp; omega
  have hb5 := hc.blk h.b5 n5
  have e1 := h.hG; have e2 := h.h3; have e3 := h.h5
  have hw := h.chg.size
  refine ⟨hb5, ⟨blk_set_ne (by omega) (hc.blk h.g nG), blk_set_ne (Ne.symm hne) (hc.blk h.b3 n3), by simpa using blk_set (o := 0) (v := v6) hb5, by simpa using own_set_ne h6 n6 v6, ?_, h.hG, h.h3, h.h5⟩⟩
  refine ⟨hc.os.trans h.chg.os, hc.tape.trans h.chg.tape, hc.output.trans h.chg.output, by have := hc.size; simp [World.setCell]; omega, fun k hk hn => ?_⟩
  rw [blk_set_ne (x := W2.heap[k]?) (by omega) rfl, hc.block k (by omega) (fun e => by have := (own_blk h.ow e).1; omega)]
  exact h.chg.block k hk hn

set_option maxRecDepth 100000 in
set_option maxHeartbeats 3200000 in
theorem satisfy_any (F : List (List Int)) (hF : F.length ≤ 80) (h25 : ∀ c ∈ F, c.length ≤ 3 ∧ ∀ n ∈ c, lit25 n) : ∀ (z : Nat) (G : Nat) (sf : Option Addr) (cf : Nat) (vs : List Int) (w : World), zc vs = z → w.heap[G]? = some (.cells (ints vs).toArray 3 (0, 0)) → WV vs → (∀ W, Chg (fun k => k = G) w W → SlS W sf F) →
    Calls Try.prog 122 #[.slice sf F.length cf, .slice (some ⟨G, 0, none⟩) 26 26] w (SiPost F vs G w) := by
  intro z
  induction z using Nat.strongRecOn with
  | ind z ih =>
    intro G sf cf vs w hz hg hv hf
    have hG := blk_lt hg
    obtain ⟨P3, hP3⟩ : ∃ P, P = w.heap.size := ⟨_, rfl⟩
    obtain ⟨P5, hP5⟩ : ∃ P, P = w.heap.size + 1 := ⟨_, rfl⟩
    have hb : Below w.heap.size w ((w.alloc (.cells #[.slice (some ⟨G, 0, none⟩) 26 26] 22)).alloc (.cells #[.slice none 0 0] 22)) := by go_grown
    have hS : SW w G P3 P5 vs [] (.slice none 0 0) ((w.alloc (.cells #[.slice (some ⟨G, 0, none⟩) 26 26] 22)).alloc (.cells #[.slice none 0 0] 22)) :=
      ⟨blk_below hb hG hg, by rw [hP3]; exact blk_old (blk_new _ _), by rw [hP5]; exact blk_at (by simp), World.ownsRow_nil _ _ _ _, Chg.of_below hb, hG, by omega, by omega⟩
    have H : Hid (SW w G P3 P5 vs [] (.slice none 0 0) ((w.alloc (.cells #[.slice (some ⟨G, 0, none⟩) 26 26] 22)).alloc (.cells #[.slice none 0 0] 22))) := hS
    have hne : P3 ≠ P5 := by omega
    have HI := Lib.hid (And.intro ih (And.intro hz (And.intro hv (And.intro hf hne))))
    have H25 := Lib.hid h25
    clear hg hv hf ih hz hS hb hne
    go_enter Try.func122, Try.ntmps122
    go_upto_region 2 with fail
    rw [← hP5, ← hP3]
    clear hP5 hP3
    revert H
    generalize ((w.alloc (.cells #[.slice (some ⟨G, 0, none⟩) 26 26] 22)).alloc (.cells #[.slice none 0 0] 22)) = W1
    intro H
    go_upto_region 4 with fail
    go_loopw [7] (fun v7 wr => ∃ (us tr : List Int) (vt : Value) (a : Bool), v7 = .bool a ∧ SW w G P3 P5 us tr vt wr ∧ TR vs us tr ∧ (∀ o, isRes F us o → isRes F vs o) ∧ (a = false → ∀ c ∈ F, okC us c)) (fun v7 wr => 2 * zc (valsAt wr G) + boolN v7)
    case atStart => exact ⟨vs, [], _, true, rfl, H.out, TR.nil HI.out.2.2.1, fun o h => h, fun h => by cases h⟩
    case round =>
      clear H
      obtain ⟨us, tr, vt, a, rfl, hsw, htr, hres, hok⟩ := hrel
      obtain ⟨st, ct, rfl⟩ := own_shape hsw.ow
      have hz26 : tr.length ≤ 26 := by
        have h1 := htr.few
        have h2 : zc vs ≤ vs.length := List.count_le_length
        have h3 := htr.wv.len
        omega
      have c3 : wr.cell? ⟨P3, 0, none⟩ = some (.slice (some ⟨G, 0, none⟩) 26 26) := blk_cell hsw.b3
      have c5 : wr.cell? ⟨P5, 0, none⟩ = some (.slice st tr.length ct) := blk_cell hsw.b5
      have hfw := HI.out.2.2.2.1 wr hsw.chg
      have HS := Lib.hid (And.intro hsw (And.intro htr (And.intro hres (And.intro hok hfw))))
      have HG : Hid (Sl wr (some ⟨G, 0, none⟩) (ints us)) := by
        have := Sl.blk hsw.g
        show Sl _ _ _
        simpa using this
      clear hsw htr hres hok hfw
      cases a
      · go_upto_region 18 with fail
        go_loop [12] (fun v12 => ∃ k : Nat, 1 ≤ k ∧ k ≤ 26 ∧ v12 = .int .i64 k ∧ ∀ u, 1 ≤ u → u < k → us.getD u 0 ≠ 0) (fun v12 => 26 - (intOf v12).toNat)
        case atStart => exact ⟨1, by omega, by omega, rfl, fun u h1 h2 => by omega⟩
        case round =>
          obtain ⟨k, hk1, hk, rfl, hp⟩ := hrel
          have HP := Lib.hid hp
          clear hp
          by_cases hlt : k < 26
          · obtain ⟨x, hx⟩ := get_of_lt (l := us) (k := k) (by rw [HS.out.2.1.wu.len]; exact hlt)
            have z1 := ints_cell HS.out.1.g hx
            obtain ⟨x1, x2⟩ := HS.out.2.1.wu.mem hx
            have hgd : us.getD k 0 = x := by rw [List.getD_eq_getElem?_getD, hx]; rfl
            by_cases h0 : x = 0
            · subst h0
              have hfz : fzV us k := ⟨hk1, hlt, hgd, HP.out⟩
              have hHX := Lib.hid (And.intro hx hfz)
              clear hx hgd hfz
              go_upto_region 21 with fail
              have hmem0 := hHX.out.2
              have hz1 := zc_set HS.out.2.1.wu hlt hHX.out.2.2.2.1 (a := -1) (by decide)
              have hz2 := zc_set HS.out.2.1.wu hlt hHX.out.2.2.2.1 (a := 1) (by decide)
              have hfew := HS.out.2.1.few
              have hzz := HI.out.2.1
              have hfacts : ∀ a : Int, (a = -1 ∨ a = 1) → WV (us.set k a) ∧ zc (us.set k a) < z ∧ (us.set k a).set k 0 = us := fun a ha => by
                refine ⟨HS.out.2.1.wu.set hk1 hlt (by omega), ?_, ?_⟩
                · rcases ha with rfl | rfl <;> omega
                · rw [List.set_set]
                  refine List.ext_getElem? fun i => ?_
                  by_cases e : k = i
                  · subst e; rw [List.getElem?_set_self (by rw [HS.out.2.1.wu.len]; exact hlt), hHX.out.1]
                  · rw [List.getElem?_set_ne e]
              have hset : ∀ q : Nat, q < 2 → ∃ l : Int, (l = -(k : Int) ∧ q = 0 ∨ l = (k : Int) ∧ q = 1) ∧ lit25 l ∧ setL us l = us.set k (if q = 0 then -1 else 1) := fun q hq => by
                rcases (show q = 0 ∨ q = 1 by omega) with rfl | rfl
                · exact ⟨-(k : Int), .inl ⟨rfl, rfl⟩, ⟨by omega, by omega, by omega⟩, by unfold setL; rw [if_pos (by omega)]; simp⟩
                · exact ⟨(k : Int), .inr ⟨rfl, rfl⟩, ⟨by omega, by omega, by omega⟩, by unfold setL; rw [if_neg (by omega)]; simp⟩
              have HFA := Lib.hid (And.intro hfacts (And.intro hset hmem0))
              clear hmem0 hz1 hz2 hfew hzz hfacts hset z1 c3 c5
              go_upto_region 22 with fail
              obtain ⟨Q, hQ⟩ : ∃ Q, Q = wr.heap.size := ⟨_, rfl⟩
              have hba := (Below.refl wr.heap.size wr).alloc (Nat.le_refl _) (.cells #[.int .i64 (-(k : Int)), .int .i64 (k : Int)] 3)
              have hkq := blk_new wr (.cells #[.int .i64 (-(k : Int)), .int .i64 (k : Int)] 3)
              have hsw := HS.out.1.below hba
              have hGQ : G < Q := by rw [hQ]; exact blk_lt HS.out.1.g
              rw [← hQ] at hkq
              rw [← hQ]
              clear hba hQ
              revert hkq hsw
              generalize wr.alloc (.cells #[.int .i64 (-(k : Int)), .int .i64 (k : Int)] 3) = W4
              intro hkq hsw
              have H4 := Lib.hid (And.intro hsw hkq)
              clear hsw hkq
              go_loopw [59] (fun v59 wq => ∃ q : Nat, q ≤ 2 ∧ v59 = .int .i64 q ∧ SW w G P3 P5 us tr (.slice st tr.length ct) wq ∧ wq.heap[Q]? = some (.cells #[.int .i64 (-(k : Int)), .int .i64 (k : Int)] 3 (0, 0)) ∧ (1 ≤ q → isRes F (us.set k (-1)) none) ∧ (2 ≤ q → isRes F (us.set k 1) none)) (fun v59 _ => 2 - (intOf v59).toNat)
              case atStart => exact ⟨0, by omega, rfl, H4.out.1, H4.out.2, fun h => by omega, fun h => by omega⟩
              case round =>
                clear H4
                obtain ⟨q, hq, rfl, hsw, hkq, hr1, hr2⟩ := hrel
                have c3 : wr.cell? ⟨P3, 0, none⟩ = some (.slice (some ⟨G, 0, none⟩) 26 26) := blk_cell hsw.b3
                by_cases hlt2 : q < 2
                · obtain ⟨l, hl1, hl2, hl3⟩ := HFA.out.2.1 q hlt2
                  obtain ⟨a, ha⟩ : ∃ a : Int, a = if q = 0 then -1 else 1 := ⟨_, rfl⟩
                  have ha2 : a = -1 ∨ a = 1 := by rw [ha]; split <;> simp
                  rw [← ha] at hl3
                  obtain ⟨a1, a2, a3⟩ := HFA.out.1 a ha2
                  have zq : wr.cell? ⟨Q, q, none⟩ = some (.int .i64 l) := by
                    rw [blk_cell hkq]
                    rcases hl1 with ⟨rfl, rfl⟩ | ⟨rfl, rfl⟩ <;> rfl
                  have HQ := Lib.hid (And.intro hsw (And.intro hkq (And.intro hr1 (And.intro hr2 (And.intro hl2 (And.intro hl3 (And.intro a1 (And.intro a2 (And.intro a3 (And.intro ha ha2))))))))))
                  clear hsw hkq hr1 hr2 hl1 hl2 hl3 a1 a2 a3 ha ha2
                  go_upto_region 25 with (go_at_call 140; ((with_reducible refine (assign_any G us l _ HQ.out.1.g HS.out.2.1.wu HQ.out.2.2.2.2.1).mono ?_); rintro e w5 ⟨rfl, h1, h2⟩; rw [HQ.out.2.2.2.2.2.1] at h1; have hsw := HQ.out.1.putG h2 h1; have H5 := Lib.hid (And.intro hsw (h2.blk HQ.out.2.1 (by omega))); clear h1 h2 hsw c3 zq))
                  have c3 : w5.cell? ⟨P3, 0, none⟩ = some (.slice (some ⟨G, 0, none⟩) 26 26) := blk_cell H5.out.1.b3
                  go_upto_region 27 with (go_at_call 122; ((with_reducible refine (HI.out.1 _ HQ.out.2.2.2.2.2.2.2.1 G sf _ (us.set k a) _ rfl H5.out.1.g HQ.out.2.2.2.2.2.2.1 (fun W hW => HI.out.2.2.2.1 W (H5.out.1.chg.trans hW))).mono ?_); rintro e w6 ⟨o, rfl, h1, h2, h3⟩; have hsw := H5.out.1.putG h3 h1; have H6 := Lib.hid (And.intro hsw (And.intro (h3.blk H5.out.2 (by omega)) h2)); clear h1 h2 h3 hsw c3; have c3 : w6.cell? ⟨P3, 0, none⟩ = some (.slice (some ⟨G, 0, none⟩) 26 26) := blk_cell H6.out.1.b3; cases o))
                  · obtain ⟨y, hy⟩ := get_of_lt (l := us.set k a) (k := k) (by rw [List.length_set, HS.out.2.1.wu.len]; exact hlt)
                    have z1 := ints_cell H6.out.1.g hy
                    have z2 : w6.frozen? ⟨G, k, none⟩ = false := blk_free H6.out.1.g
                    have hbs := ints_blk_set H6.out.1.g k 0
                    simp only [Option.getD_none] at hbs
                    rw [HQ.out.2.2.2.2.2.2.2.2.1] at hbs
                    have hc2 : Chg (fun k => k = G) w6 (w6.setCell ⟨G, k, none⟩ (.int .i64 0)) := ⟨rfl, rfl, rfl, by simp, fun k hk hne => blk_set_ne (Ne.symm hne) rfl⟩
                    have hsw := H6.out.1.putG hc2 hbs
                    have H7 := Lib.hid (And.intro hsw (hc2.blk H6.out.2.1 (by omega)))
                    clear hy hbs hc2 hsw
                    go_wp2_with fail
                    go_roundw
                    case rel =>
                      refine ⟨q + 1, by omega, by go_num, H7.out.1, H7.out.2, fun _ => ?_, fun h => ?_⟩
                      · by_cases e : q = 0
                        · have ha := HQ.out.2.2.2.2.2.2.2.2.2.1
                          rw [if_pos e] at ha
                          rw [ha] at H6
                          exact H6.out.2.2
                        · exact HQ.out.2.2.1 (by omega)
                      · have ha := HQ.out.2.2.2.2.2.2.2.2.2.1
                        rw [if_neg (by omega)] at ha
                        rw [ha] at H6
                        exact H6.out.2.2
                    case measure => simp [intOf]; omega
                  · rename_i r
                    go_wp2_with fail
                    go_ret
                    refine ⟨some r, rfl, H6.out.1.g, HS.out.2.2.1 _ ?_, H6.out.1.chg⟩
                    by_cases e : q = 0
                    · have ha := HQ.out.2.2.2.2.2.2.2.2.2.1
                      rw [if_pos e] at ha
                      rw [ha] at H6
                      exact res_false HS.out.2.1.wu HFA.out.2.2 H6.out.2.2
                    · have ha := HQ.out.2.2.2.2.2.2.2.2.2.1
                      rw [if_neg e] at ha
                      rw [ha] at H6
                      exact res_true HS.out.2.1.wu HFA.out.2.2 (HQ.out.2.2.1 (by omega)) H6.out.2.2
                · obtain rfl : q = 2 := by omega
                  have hfin := res_true HS.out.2.1.wu HFA.out.2.2 (hr1 (by omega)) (hr2 (by omega))
                  have HQ := Lib.hid (And.intro hsw hfin)
                  clear hsw hkq hr1 hr2 hfin
                  go_wp2_with (go_at_call 138; ((with_reducible refine (undo_any w G P3 P5 vs us tr st ct _ HQ.out.1 HS.out.2.1 hz26).mono ?_); rintro e w8 ⟨rfl, h1, h2⟩; have H8 := Lib.hid (And.intro h1 h2); clear h1 h2))
                  go_ret
                  exact ⟨none, rfl, H8.out.1, HS.out.2.2.1 _ HQ.out.2, HQ.out.1.chg.trans H8.out.2⟩
            · have HP2 : Hid (∀ u, 1 ≤ u → u < k + 1 → us.getD u 0 ≠ 0) := Lib.hid fun u h1 h2 => by
                by_cases e : u = k
                · subst e; rw [hgd]; exact h0
                · exact HP.out u h1 (by omega)
              clear hx hgd
              go_wp2_with fail
              go_round
              case rel => exact ⟨k + 1, by omega, by omega, by go_num, HP2.out⟩
              case measure => simp [intOf]; omega
          · obtain rfl : k = 26 := by omega
            have hr := full_ok HS.out.2.1.wu (fun i h1 h2 => HP.out i h1 h2) H25.out (HS.out.2.2.2.1 (by first | trivial | rfl))
            have HR := Lib.hid hr
            clear hr
            go_wp2_with fail
            go_ret
            exact ⟨some us, rfl, HS.out.1.g, HS.out.2.2.1 _ HR.out, HS.out.1.chg⟩
      · go_upto_region 7 with fail
        go_loop [7, 19] (fun v7 v19 => ∃ k : Nat, k ≤ F.length ∧ v7 = .bool false ∧ v19 = .int .i64 k ∧ ∀ c ∈ F.take k, okC us c) (fun _ v19 => F.length - (intOf v19).toNat)
        case atStart => exact ⟨0, Nat.zero_le _, rfl, rfl, by simp⟩
        case round =>
          obtain ⟨k, hk, rfl, rfl, hp⟩ := hrel
          have HP := Lib.hid hp
          clear hp
          by_cases hlt : k < F.length
          · obtain ⟨c, hc⟩ := get_of_lt hlt
            obtain ⟨hc3, hc25⟩ := H25.out c (List.mem_of_getElem? hc)
            obtain ⟨b, off, sc, cc, rfl, hbw, hz, hsc⟩ := HS.out.2.2.2.2.row' hc
            have HC := Lib.hid (And.intro hc (And.intro hsc hc25))
            have hmem := Lib.hid (List.mem_of_getElem? hc)
            clear hc hsc hc25 hbw
            go_upto_region 10 with (go_at_call 139; ((with_reducible refine (unit_any _ sc us c _ _ _ HG.out HS.out.2.1.wu HC.out.2.1 HC.out.2.2 hc3).mono ?_); rintro e w1 ⟨l, ok, rfl, hst, rfl⟩))
            rcases hst with ⟨rfl, rfl, hq⟩ | ⟨rfl, rfl, hq⟩ | ⟨rfl, hl0, hu1, hu2, hu3⟩
            · have HQ := Lib.hid hq
              clear hq
              go_wp2_with (go_at_call 138; ((with_reducible refine (undo_any w G P3 P5 vs us tr st ct _ HS.out.1 HS.out.2.1 hz26).mono ?_); rintro e w2 ⟨rfl, h1, h2⟩; have H2 := Lib.hid (And.intro h1 h2); clear h1 h2))
              go_ret
              exact ⟨none, rfl, H2.out.1, HS.out.2.2.1 _ (res_conf hmem.out HC.out.2.2 HQ.out), HS.out.1.chg.trans H2.out.2⟩
            · have HO : Hid (∀ c ∈ F.take (k + 1), okC us c) := Lib.hid (all_snoc HP.out HC.out.1 hq)
              clear hq
              go_wp2_with fail
              go_round
              case rel => exact ⟨k + 1, by omega, rfl, by go_num, HO.out⟩
              case measure => simp [intOf]; omega
            · have hu25 := HC.out.2.2 l hu1
              have hzs := zc_setL HS.out.2.1.wu hu25 hu2
              have hun : (l != 0) = true := by simpa using hl0
              have hpu := HS.out.2.1.push hu25 hu2
              have HU := Lib.hid (And.intro hu1 (And.intro hu2 (And.intro hu3 (And.intro hu25 (And.intro hzs hpu)))))
              clear hu1 hu2 hu3 hu25 hzs hpu hl0
              go_upto_region 14 with (go_at_call 140; ((with_reducible refine (assign_any G us l _ HS.out.1.g HS.out.2.1.wu HU.out.2.2.2.1).mono ?_); rintro e w2 ⟨rfl, h1, h2⟩; have hsw := HS.out.1.putG h2 h1; have H2 := Lib.hid hsw; clear h1 h2 hsw c3 c5))
              have c3 : w2.cell? ⟨P3, 0, none⟩ = some (.slice (some ⟨G, 0, none⟩) 26 26) := blk_cell H2.out.b3
              have c5 : w2.cell? ⟨P5, 0, none⟩ = some (.slice st tr.length ct) := blk_cell H2.out.b5
              have hba := (Below.refl w2.heap.size w2).alloc (Nat.le_refl _) (.cells #[.int .i64 l] 3)
              have hsw := H2.out.below hba
              have hs1 := hsw.chg.size
              have H3 := Lib.hid hsw
              have hlt5 := blk_lt H2.out.b5
              clear hba hsw
              go_wp2_with (at_builtin; refine wpl_app rfl _ _ rfl elem_int H3.out.ow rfl rfl rfl (Sl.new _ _ _) (by simp [Value.oneCell']) (tr.length + 1) rfl (ints (tr ++ [l])) (by rw [← ints_append]; rfl) (by unfold maxLen; omega) (by omega) hs1 ?_; intro s6 c6 w6 h6 hb6 hg6 hob6; obtain ⟨k1, k2⟩ := H3.out.push h6 hg6 hob6 HI.out.2.2.2.2; have y1 : w6.cell? ⟨P5, 0, none⟩ = some (.slice st tr.length ct) := blk_cell k1; have y2 : w6.frozen? ⟨P5, 0, none⟩ = false := blk_free k1; have H6 := Lib.hid k2; clear h6 hb6 hg6 hob6 k1 k2)
              have hva := valsAt_of HS.out.1.g
              have hvb := valsAt_of H6.out.g
              have hzs := HU.out.2.2.2.2.1
              go_roundw
              case rel => exact ⟨setL us l, tr ++ [l], .slice s6 (tr.length + 1) c6, true, rfl, H6.out, HU.out.2.2.2.2.2, fun o h => HS.out.2.2.1 o (res_unit HS.out.2.1.wu hmem.out HC.out.2.2 HU.out.1 HU.out.2.1 HU.out.2.2.1 h), fun h => by cases h⟩
              case measure => rw [hva, hvb]; simp only [boolN]; omega
          · obtain rfl : k = F.length := by omega
            have hp := HP.out
            rw [List.take_length] at hp
            have HQ := Lib.hid hp
            clear hp
            go_wp2_with fail
            go_roundw
            case rel => exact ⟨us, tr, _, false, rfl, HS.out.1, HS.out.2.1, HS.out.2.2.1, fun _ => HQ.out⟩
            case measure => simp only [boolN]; omega

def SaI (F : List (List Int)) (w : World) (e : Ending) (w' : World) : Prop :=
  ∃ (s' : Option Addr) (c' : Nat) (o : Option (List Int)), e = .returned (.tuple #[.slice s' (o.getD []).length c', .bool o.isSome]) ∧ w'.ownsRow w.heap.size 3 1 (.slice s' (o.getD []).length c') (o.getD []).length (ints (o.getD [])) ∧ satP F o ∧ Below w.heap.size w w'

set_option maxHeartbeats 800000 in
theorem Satisfy_i (s : Option Addr) (cap : Nat) (F : List (List Int)) (w : World) (hs : SlS w s F) (hn : F.length ≤ 1048576) (hr : ∀ r ∈ F, r.length ≤ 1048576) :
    Calls Try.prog 83 #[.slice s F.length cap] w (SaI F w) := by
  have HS := Lib.hid (And.intro hs hr)
  clear hs hr
  cases hv : clausesB F
  · have HV := Lib.hid hv
    clear hv
    go_enter Try.func83, Try.ntmps83
    go_wp2_with (go_at_call 121; ((with_reducible refine (ClausesValid_i s _ F _ HS.out.1 hn HS.out.2).mono ?_); rintro e w1 ⟨rfl, rfl⟩; rw [HV.out]))
    exact bodyPost_ret (v := .tuple #[.slice none 0 0, .bool false]) (by simp [results, Try.results83, go_sem]) rfl ⟨none, 0, none, rfl, World.ownsRow_nil _ _ _ _, .inr ⟨HV.out, rfl⟩, Below.refl _ _⟩
  · have hcl : clausesP F := by simpa [clausesB] using hv
    have h80 := hcl.1
    have h25 : ∀ c ∈ F, c.length ≤ 3 ∧ ∀ n ∈ c, lit25 n := hcl.2
    have HV := Lib.hid (And.intro hv h25)
    clear h25
    have hmk : ∀ w, (Instr.makeSlice 22 (.int .i64 26) (.int .i64 26)).run Try.prog w = .ok (.slice (some ⟨w.heap.size, 0, none⟩) 26 26) (w.alloc (.cells (ints zero26).toArray 3)) := fun w => mkInts w 26 (by omega)
    have hb := (Below.refl w.heap.size w).alloc (Nat.le_refl _) (.cells (ints zero26).toArray 3)
    have hbs := hb.size
    have hsat := satisfy_any F h80 HV.out.2 _ w.heap.size s cap zero26 (w.alloc (.cells (ints zero26).toArray 3)) rfl (blk_new _ _) zero26_wv (fun W hW => HS.out.1.mono (hb.trans (hW.below hbs (fun k hk hs => by omega))))
    have HB := Lib.hid (And.intro hb (And.intro hsat hbs))
    clear hv hcl hb hsat hbs
    go_enter Try.func83, Try.ntmps83
    go_upto_region 6 with (first
      | (go_at_call 121; ((with_reducible refine (ClausesValid_i s _ F _ HS.out.1 hn HS.out.2).mono ?_); rintro e w1 ⟨rfl, rfl⟩; rw [HV.out.1]))
      | (go_at_call 122; ((with_reducible refine HB.out.2.1.mono ?_); rintro e w2 ⟨o, rfl, a1, a2, a3⟩; have H2 := Lib.hid (And.intro a1 (And.intro a2 (HB.out.1.trans (a3.below HB.out.2.2 (fun k hk hs => by omega))))); clear a1 a2 a3; cases o)))
    all_goals go_wp2_with fail
    · exact bodyPost_ret (v := .tuple #[.slice none 0 0, .bool false]) (by simp [results, Try.results83, go_sem]) rfl ⟨none, 0, none, rfl, World.ownsRow_nil _ _ _ _, .inl ⟨HV.out.1, H2.out.2.1⟩, H2.out.2.2⟩
    · rename_i r
      have hl := isRes_len H2.out.2.1
      exact bodyPost_ret (v := .tuple #[.slice (some ⟨w.heap.size, 0, none⟩) 26 26, .bool true]) (by simp [results, Try.results83, go_sem]) rfl ⟨some ⟨w.heap.size, 0, none⟩, 26, some r, by rw [Option.getD_some, hl]; rfl, by rw [Option.getD_some, hl]; have := own_of_blk (base := w.heap.size) (size := 1) (n := 26) H2.out.1 (Nat.le_refl _) (by simp [hl]) (by unfold maxLen; omega); simpa using this, .inl ⟨HV.out.1, H2.out.2.1⟩, H2.out.2.2⟩

end Go.Proofs.Ytindndcdpnpcmaa
