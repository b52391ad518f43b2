import Derived.Test.YtnifgamlmaembaaDoorTG
import Derived.Test.YtnifgamlmaembaaDoorSJ
namespace Go.Proofs.YtnifgamlmaembaaDoor
set_option linter.unusedVariables false
set_option linter.unusedSimpArgs false
open Go.RowKit

theorem atoi_fin : ∀ n : Fin 100, (match Lib.atoiAll (if n.val < 10 then [UInt8.ofNat (48 + n.val)] else [UInt8.ofNat (48 + n.val / 10), UInt8.ofNat (48 + n.val % 10)]) with | .ok v => decide (v = (n.val : Int)) | _ => false) = true := by decide +kernel
theorem atoi_dec {n : Nat} (h : n < 100) : Lib.atoiAll (Lib.decDigits n) = .ok (n : Int) := by
  have h1 := atoi_fin ⟨n, h⟩
  have e : Lib.decDigits n = if n < 10 then [UInt8.ofNat (48 + n)] else [UInt8.ofNat (48 + n / 10), UInt8.ofNat (48 + n % 10)] := by
    by_cases h10 : n < 10
    · rw [if_pos h10, dec1 h10]
    · rw [if_neg h10, dec2 h10 h]
  rw [e]
  revert h1
  generalize Lib.atoiAll _ = x
  intro h1
  cases x <;> simp at h1
  rw [h1]
/-! Numbers of a list of words. -/

/-- What the library reads: MaxLen, and the errors of strconv. -/
structure Gl (w : World) : Prop where
  m : ∃ m, w.cell? ⟨0, 0, none⟩ = some (.int .i64 m)
  e1 : ∃ te pe, w.cell? ⟨1, 0, none⟩ = some (.iface te pe)
  e2 : ∃ te pe, w.cell? ⟨2, 0, none⟩ = some (.iface te pe)
  sz : 3 ≤ w.heap.size
theorem Gl.mono {w w' : World} {B : Nat} (h : Gl w) (hB : 3 ≤ B) (hb : Below B w w') : Gl w' := by
  obtain ⟨⟨m, h1⟩, ⟨te, pe, h2⟩, ⟨te', pe', h3⟩, h4⟩ := h
  exact ⟨⟨m, (hb.cell (p := ⟨0, 0, none⟩) (by show 0 < B; omega)).trans h1⟩, ⟨te, pe, (hb.cell (p := ⟨1, 0, none⟩) (by show 1 < B; omega)).trans h2⟩, ⟨te', pe', (hb.cell (p := ⟨2, 0, none⟩) (by show 2 < B; omega)).trans h3⟩, Nat.le_trans h4 hb.size⟩

def AtPost (l : Tx) (w : World) (e : Ending) (w' : World) : Prop :=
  Below w.heap.size w w' ∧ ((∃ v, Lib.atoiAll l = .ok v ∧ -9223372036854775808 ≤ v ∧ v ≤ 9223372036854775807 ∧ e = .returned (.tuple #[.int .i64 v, .nilIface])) ∨ (∃ x N, numP l = -1 ∧ e = .returned (.tuple #[.int .i64 x, .iface 107 (.pointer (some ⟨N, 0, none⟩))])))
theorem not_dec {l : Tx} (h : ∀ v, Lib.atoiAll l ≠ .ok v) : numP l = -1 :=
  numP_none fun n hn e => h n (by rw [e]; exact atoi_dec hn)
theorem atoi_bd {l : Tx} {v : Int} (h : Lib.atoiAll l = .ok v) : -9223372036854775808 ≤ v ∧ v ≤ 9223372036854775807 := by
  unfold Lib.atoiAll at h
  cases l with
  | nil => simp at h
  | cons c r =>
    simp only at h
    split at h
    · cases h
    · cases h
    · split at h
      · cases h
      · split at h
        · cases h
        · injection h with h
          split at h <;> omega
theorem below_bytes (w : World) (e : TypeId) (s : ByteArray) : Below w.heap.size w (Lib.bytesWorld w e s) := by
  refine ⟨?_, ?_, ?_, by rw [Lib.bytesWorld_size]; omega, fun k hk => Lib.bytesWorld_at_old w e s k hk⟩ <;> (unfold Lib.bytesWorld World.freeze; split <;> rfl)
theorem atoi_any (l : Tx) (hl : l.length ≤ 1048576) (w : World) (hg : Gl w) : Calls Tryd.prog 63 #[sv l] w (AtPost l w) := by
  have hsz : (⟨l.toArray⟩ : ByteArray).size = l.length := size_mk l
  have hd : (⟨l.toArray⟩ : ByteArray).data.toList = l := by simp
  cases h : Lib.atoiAll l
  case ok v =>
    refine (strconv_Atoi_ok ⟨l.toArray⟩ (by omega) v (by rw [hd]; exact h) w).mono ?_
    rintro e w' ⟨rfl, hw⟩
    refine ⟨?_, .inl ⟨v, h, (atoi_bd h).1, (atoi_bd h).2, rfl⟩⟩
    rcases hw with rfl | ⟨t, rfl⟩
    · exact Below.refl _ _
    · exact below_bytes _ _ _
  case range =>
    obtain ⟨te, pe, h2⟩ := hg.e2
    refine (strconv_Atoi_range ⟨l.toArray⟩ (by omega) (by rw [hd]; exact h) _ w h2 (.inr ⟨te, pe, rfl⟩)).mono ?_
    rintro e w' ⟨N, rfl, -, -, hb⟩
    exact ⟨hb, .inr ⟨_, N, not_dec (fun v e => by rw [h] at e; cases e), rfl⟩⟩
  all_goals
    obtain ⟨te, pe, h2⟩ := hg.e1
    refine (strconv_Atoi_bad ⟨l.toArray⟩ (by omega) (Lib.atoiAll l) (fun v e => by rw [h] at e; cases e) (fun e => by rw [h] at e; cases e) (by rw [hd]) _ w h2 (.inr ⟨te, pe, rfl⟩)).mono ?_
    rintro e w' ⟨N, rfl, -, -, hb⟩
    exact ⟨hb, .inr ⟨_, N, not_dec (fun v e => by rw [h] at e; cases e), rfl⟩⟩

end Go.Proofs.YtnifgamlmaembaaDoor
