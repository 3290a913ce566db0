/- Proved here: lemmas and contracts (OrderBase) for the laws of this seat, for all values of the stated types; no further condition. -/
import Derived.Test.YteikhmabgnpljaaFit
import Derived.Deep.DeepCutAuto
import Derived.Deep.CutBlock
open Go Go.RowKit Go.Lib Go.Conc
namespace Go.Proofs.L
theorem send_any {w pb g cap C B} (h : Po w pb g cap C B) (i : Nat) (hi : i < C.length) (l : Int × ByteArray) :
    Calls Try.prog 8 #[.pointer (some ⟨pb, 0, none⟩), .int .i64 i, letV l] w fun e w' => ∃ r L', e = .returned (.int .i64 r) ∧ Po w' pb g cap C (B.set i L') ∧ Chg [C[i]] w w' := by
  have hB : B.set i (B.getD i []) = B := set_self _ _ _ (by rw [h.len]; exact hi)
  by_cases ht : 1 ≤ l.2.size ∧ l.2.size ≤ 16
  · rcases Nat.lt_or_ge (B.getD i []).length 4 with hl | hl
    · exact (send_ok h i hi l ht.1 ht.2 hl).mono fun e w' ⟨he, hp, hc⟩ => ⟨_, _, he, hp, hc⟩
    · exact (send_fu h i hi l ht.1 ht.2 (by have := h.getL i hi; omega)).mono fun e w' ⟨he, hp, hc⟩ => ⟨_, _, he, by rw [hB]; exact hp, hc.mono (by simp)⟩
  · exact (send_bad h i l (.inr ht)).mono fun e w' ⟨he, hp, hc⟩ => ⟨_, _, he, by rw [hB]; exact hp, hc.mono (by simp)⟩
theorem take_any {w pb g cap C B} (h : Po w pb g cap C B) (i : Nat) (hi : i < C.length) :
    Calls Try.prog 9 #[.pointer (some ⟨pb, 0, none⟩), .int .i64 i] w fun e w' => ∃ x r L', e = .returned (.tuple #[x, .int .i64 r]) ∧ Po w' pb g cap C (B.set i L') ∧ Chg [C[i]] w w' := by
  have hB : B.set i (B.getD i []) = B := set_self _ _ _ (by rw [h.len]; exact hi)
  cases hl : B.getD i [] with
  | nil => exact (take_em h i hi hl).mono fun e w' ⟨he, hp, hc⟩ => ⟨_, _, _, he, by rw [hB]; exact hp, hc.mono (by simp)⟩
  | cons l L => exact (take_ok h i hi l L hl).mono fun e w' ⟨he, hp, hc⟩ => ⟨_, _, _, he, hp, hc⟩
theorem grown_chg {w w' : World} {row : Option Nat} (h : w.grownBy w' row) : Chg row.toList w w' :=
  ⟨h.os, h.tape, h.output, h.size, fun k hk hn => h.block k hk (fun e => hn (by subst e; simp))⟩
def strsC (L : List (Int × ByteArray)) : List Value := L.map fun l => .string l.2
theorem info9 : (Try.prog.info? 9).map (fun i => (i.zero, i.size, i.bytes)) = some (some (.string ⟨#[]⟩), 1, 16) := by kernel_rfl
theorem own_form {w : World} {base e size n : Nat} {v : Value} {xs : List Value} (h : w.ownsRow base e size v n xs) :
    ∃ p cap, v = .slice p n cap ∧ (0 < n → ∃ g, p = some ⟨g, 0, none⟩ ∧ (Value.slice p n cap).ownBlock = some g) := by
  rcases h.2 with ⟨rfl, rfl⟩ | ⟨g, cap, cur, rfl, _⟩
  · exact ⟨_, _, rfl, fun h => by omega⟩
  · exact ⟨_, _, rfl, fun _ => ⟨g, rfl, rfl⟩⟩
theorem cellsAt {w : World} {base e size n : Nat} {v : Value} {xs : List Value} (h : w.ownsRow base e size v n xs) {g : Nat} (hg : v.ownBlock = some g) (j : Nat) (u : Value) (hu : xs[j]? = some u) : w.cell? ⟨g, j, none⟩ = some u := by
  have := World.ownsRow.cells h hg j u hu
  rwa [show (⟨g, 0, none⟩ : Addr).add j = ⟨g, j, none⟩ from by unfold Addr.add; split <;> simp_all] at this
theorem wrap1 (k : Nat) (h : k < 100000000) : wrap64 ((k : Int) + 1) = ((k + 1 : Nat) : Int) := by
  rw [IntWalk.wrap64_in _ ⟨by omega, by omega⟩]; simp
end Go.Proofs.L
