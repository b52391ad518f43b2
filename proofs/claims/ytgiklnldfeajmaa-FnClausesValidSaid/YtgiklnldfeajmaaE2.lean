import Derived.Test.YtgiklnldfeajmaaE1
import Derived.Test.YtgiklnldfeajmaaB3
namespace Go.Proofs.Ytgiklnldfeajmaa
open Go.RowKit

theorem OwnSS.cap {w : World} {base : Nat} {s : Option Addr} {c : Nat} {rows : List (List Int)} (h : OwnSS w base (.slice s rows.length c) rows) : rows.length ≤ c := by
  obtain ⟨vs, h1, _⟩ := h
  rcases h1.2 with ⟨e, h0⟩ | ⟨g, cap, cur, e, _, _, hn, _⟩
  · simp only [Value.slice.injEq] at e; omega
  · simp only [Value.slice.injEq] at e; omega
theorem cb0 : clausesB [] = true := by decide
theorem cb1 : clausesB [[0]] = false := by decide
theorem sls_nil (w : World) (s : Option Addr) : SlS w s [] := ⟨[], rfl, .inl rfl, by simp⟩
theorem sls_one (w : World) (r : List Int) (o o2 : Obj) (ho : o = .cells (ints r).toArray 3) (ho2 : o2 = .cells #[.slice (some ⟨w.heap.size, 0, none⟩) r.length r.length] 40) : SlS ((w.alloc o).alloc o2) (some ⟨w.heap.size + 1, 0, none⟩) [r] := by
  subst ho ho2
  refine ⟨[.slice (some ⟨w.heap.size, 0, none⟩) r.length r.length], rfl, ?_, fun i r' hr => ?_⟩
  · exact Sl.new1 _ _ _ _
  · match i with
    | 0 =>
      simp at hr; subst hr
      refine ⟨_, _, rfl, ?_⟩
      have h := (Sl.new w (ints r).toArray 3).mono ((Below.refl _ _).alloc (Nat.le_refl _) (.cells #[.slice (some ⟨w.heap.size, 0, none⟩) r.length r.length] 40))
      simpa using h
    | i + 1 => simp at hr

theorem cv0 (w : World) : Calls Try.prog 12 #[.slice (some ⟨w.heap.size, 0, none⟩) 0 0] (w.alloc (.cells #[] 40)) fun e w' => e = .returned (.bool true) ∧ w.alloc (.cells #[] 40) = w' :=
  (ClausesValid_i (some ⟨w.heap.size, 0, none⟩) 0 [] _ (sls_nil _ _) (by simp) (by simp)).mono fun e w' h => by rw [cb0] at h; exact h
theorem cv1 (w : World) : Calls Try.prog 12 #[.slice (some ⟨w.heap.size + 1 + 1, 0, none⟩) 1 1] (((w.alloc (.cells #[] 40)).alloc (.cells #[.int .i64 0] 3)).alloc (.cells #[.slice (some ⟨w.heap.size + 1, 0, none⟩) 1 1] 40)) fun e w' => e = .returned (.bool false) ∧ (((w.alloc (.cells #[] 40)).alloc (.cells #[.int .i64 0] 3)).alloc (.cells #[.slice (some ⟨w.heap.size + 1, 0, none⟩) 1 1] 40)) = w' := by
  have h := sls_one (w.alloc (.cells #[] 40)) [0] (.cells #[.int .i64 0] 3) (.cells #[.slice (some ⟨w.heap.size + 1, 0, none⟩) 1 1] 40) rfl (by rw [World.size_alloc]; rfl)
  rw [World.size_alloc] at h
  exact (ClausesValid_i (some ⟨w.heap.size + 1 + 1, 0, none⟩) 1 [[0]] _ h (by simp) (by simp)).mono fun e w' h => by rw [cb1] at h; exact h

theorem sls_tail {w : World} {s : Option Addr} {rows : List (List Int)} (h : SlS w s rows) : SlS w (Option.map (fun x : Addr => { block := x.block, off := x.off + 1 }) s) (rows.drop 1) := by
  obtain ⟨vs, h1, h2, h3⟩ := h
  refine ⟨vs.drop 1, by simp [h1], ?_, fun i r hr => ?_⟩
  · rcases h2 with rfl | ⟨b, off, rfl, h⟩
    · exact .inl rfl
    · refine .inr ⟨b, off + 1, rfl, fun j v hv => ?_⟩
      rw [List.getElem?_drop] at hv
      have := h _ _ hv
      rwa [show off + (1 + j) = off + 1 + j from by omega] at this
  · rw [List.getElem?_drop] at hr
    obtain ⟨si, ci, h4, h5⟩ := h3 _ _ hr
    exact ⟨si, ci, by rw [List.getElem?_drop]; exact h4, h5⟩
theorem cvt (w : World) (s : Option Addr) (rows : List (List Int)) (c : Nat) (h : SlS w s rows) (hl : rows.length ≤ 81) (hr : ∀ r ∈ rows, r.length ≤ 4) (hv : clausesB rows = true) :
    Calls Try.prog 12 #[.slice (Option.map (fun x : Addr => { block := x.block, off := x.off + 1 }) s) (rows.length - 1) c] w fun e w' => e = .returned (.bool true) ∧ w = w' := by
  have h2 := ClausesValid_i _ c (rows.drop 1) w (sls_tail h) (by simp; omega) (fun r hr' => by have := hr r (List.mem_of_mem_drop hr'); omega)
  rw [List.length_drop] at h2
  have hb : clausesB (rows.drop 1) = true := by
    refine clausesB_true ?_
    have hp : clausesP rows := by simpa [clausesB] using hv
    exact ⟨by have := hp.1; simp; omega, fun r hr' => hp.2 r (List.mem_of_mem_drop hr')⟩
  rw [hb] at h2
  exact h2
theorem cvt0 (w : World) (s : Option Addr) (n : Nat) (hn : n = 0) : Calls Try.prog 12 #[.slice s n 0] w fun e w' => e = .returned (.bool true) ∧ w = w' := by
  subst hn
  exact (ClausesValid_i s 0 [] _ (sls_nil _ _) (by simp) (by simp)).mono fun e w' h => by rw [cb0] at h; exact h

set_option maxHeartbeats 1000000 in
theorem FnClausesValid_any (s : Option Addr) (cap : Nat) (xs : List Int) (w : World) (hs : Sl w s (u8s xs)) (hl : xs.length ≤ 9223372036854775807) (hcap : xs.length ≤ cap) (hcap2 : cap ≤ 9223372036854775807) (hr : ∀ x ∈ xs, 0 ≤ x ∧ x ≤ 255) :
    Calls Try.prog 5 #[.slice s xs.length cap] w fun e w' => e = .returned (.bool true) ∧ Below w.heap.size w w' := by
  by_cases hc : xs.length ≤ 1048576
  · have HD := Lib.hid (DrawClausesValid_any s cap xs w hs hc hcap hcap2 hr)
    clear hs hr
    go_enter Try.func5, Try.ntmps5
    go_wp2_with (first
      | (go_at_call 19; (with_reducible refine HD.out.mono ?_); rintro e w1 ⟨s', c', rows, rfl, h1, h2, h3, h4⟩; have H1 := Lib.hid (And.intro h1 (And.intro h3 h4)); have H1b : Hid (Below w1.heap.size w1 (((w1.alloc (.cells #[] 40)).alloc (.cells #[.int .i64 0] 3)).alloc (.cells #[.slice (some ⟨w1.heap.size + 1, 0, none⟩) 1 1] 40))) := (((Below.refl _ _).alloc (Nat.le_refl _) _).alloc (by simp) _).alloc (by simp; omega) _; have hcp := h1.cap; clear h1 h3 h4)
      | (go_at_call 12; (with_reducible refine (ClausesValid_i _ _ _ _ H1.out.1.sls (by omega) (fun r hr => by have := H1.out.2.1 r hr; omega)).mono ?_); rintro e w2 ⟨rfl, rfl⟩)
      | (go_at_call 12; ((with_reducible refine (cv0 _).mono ?_); rintro e w2 ⟨rfl, rfl⟩))
      | (go_at_call 12; ((with_reducible refine (cv1 _).mono ?_); rintro e w2 ⟨rfl, rfl⟩))
      | (go_at_call 12; ((with_reducible refine (cvt0 _ _ _ (by omega)).mono ?_); rintro e w2 ⟨rfl, rfl⟩))
      | (go_at_call 12; ((with_reducible refine (cvt _ _ _ _ (H1.out.1.sls.mono H1b.out) (by omega) H1.out.2.1 (by assumption)).mono ?_); rintro e w2 ⟨rfl, rfl⟩))
      | (go_at_call 20; ((with_reducible refine (alive_any _).mono ?_); rintro e w2 ⟨rfl, hq⟩; have HA := Lib.hid hq; clear hq))
      | (go_at_call 10; (with_reducible refine (ClausesValid_s _ _ _ _ H1.out.1.sls (by omega) (fun r hr => by have := H1.out.2.1 r hr; omega)).mono ?_); rintro e w2 ⟨rfl, rfl⟩))
    all_goals first
      | exact absurd (List.eq_nil_of_length_eq_zero (l := rows) (by omega)) (by assumption)
      | skip
    all_goals (go_ret; first
      | exact ⟨rfl, (H1.out.2.2.trans (H1b.out.mono H1.out.2.2.size)).trans (HA.out.mono (by have := H1.out.2.2.size; simp; omega))⟩
      | exact ⟨rfl, H1.out.2.2.trans (H1b.out.mono H1.out.2.2.size)⟩)
  · clear hs hr
    go_enter Try.func5, Try.ntmps5
    go_wp2
    go_ret
    exact ⟨rfl, Below.refl _ _⟩

end Go.Proofs.Ytgiklnldfeajmaa
