/- Proved here: lemmas and contracts (P2) for the laws of this seat, for all values of the stated types; no further condition. -/
import Derived.Test.YtikbkhhgbkpijaaProg
import Derived.StillTailTactics
import Derived.Lib.Hide
import Derived.Test.YtikbkhhgbkpijaaPz
import Derived.Test.YtikbkhhgbkpijaaReg
open Go Go.RowKit Go.Lib
namespace Go.Proofs.L
theorem u64_id {n : Int} (h : 0 ≤ n) (h1 : n < 18446744073709551616) : IntKind.u64.wrap n = n := by
  simp [IntKind.wrap, IntKind.bits, IntKind.signed]; omega
set_option maxRecDepth 100000 in
set_option maxHeartbeats 800000 in
theorem within_any (a n b m : Nat) (ha : a < 4294967296) (hn : n < 4294967296) (hb : b < 4294967296) (hm : m < 4294967296) (w : World) :
    Calls Try.prog 23 #[.int .u32 (a : Int), .int .u32 (n : Int), .int .u32 (b : Int), .int .u32 (m : Int)] w fun e w' => e = .returned (.bool (decide (b ≤ a ∧ a + n ≤ b + m))) ∧ w' = w := by
  have h1 := u64_id (n := (a : Int)) (by omega) (by omega)
  have h2 := u64_id (n := (n : Int)) (by omega) (by omega)
  have h3 := u64_id (n := (b : Int)) (by omega) (by omega)
  have h4 := u64_id (n := (m : Int)) (by omega) (by omega)
  have h5 := u64_id (n := (a : Int) + n) (by omega) (by omega)
  have h6 := u64_id (n := (b : Int) + m) (by omega) (by omega)
  go_enter Try.func23, Try.ntmps23
  by_cases hab : b ≤ a
  · have hab1 : decide ((a : Int) ≥ b) = true := by simpa using hab
    go_wp2
    go_ret
    refine ⟨congrArg (fun b => Ending.returned (.bool b)) ?_, rfl⟩
    show decide ((a : Int) + n ≤ b + m) = _
    rw [decide_eq_decide]; simp [hab]; omega
  · have hab1 : decide ((a : Int) ≥ b) = false := by simpa using hab
    go_wp2
    go_ret
    exact ⟨by simp [hab], rfl⟩
set_option maxRecDepth 100000 in
set_option maxHeartbeats 800000 in
theorem has_any (a n : Nat) (ha : a < 4294967296) (hn : n < 4294967296) (p : Addr) (w : World) :
    Calls Try.prog 19 #[.pointer (some p), .int .u32 (a : Int), .int .u32 (n : Int)] w fun e w' => e = .returned (.bool (inRam a n)) ∧ w' = w := by
  have hw := within_any a n 2147483648 65536 ha hn (by decide) (by decide) w
  go_enter Try.func19, Try.ntmps19
  go_wp2_with fail
  refine hw.mono ?_
  rintro e w1 ⟨rfl, rfl⟩
  go_wp2
  go_ret
  refine ⟨?_, rfl⟩
  show Ending.returned (Value.bool _) = _
  rw [inRam, Bool.decide_and]
set_option maxRecDepth 100000 in
set_option maxHeartbeats 800000 in
theorem has_nil (a n : Nat) (w : World) :
    Calls Try.prog 19 #[.pointer none, .int .u32 (a : Int), .int .u32 (n : Int)] w fun e w' => e = .returned (.bool false) ∧ w' = w := by
  go_enter Try.func19, Try.ntmps19
  go_wp2
  go_ret
  exact ⟨rfl, rfl⟩
def ok3 (n : Int) : Bool := decide (n = 1 ∨ n = 2 ∨ n = 4)
theorem ok3_cases {n : Int} (h : ok3 n = true) : n = 1 ∨ n = 2 ∨ n = 4 := by simpa [ok3] using h
/-- what Load returns -/
def ldV (f : Nat → Nat) (a : Nat) (n : Int) : Array Value :=
  if ok3 n && inRam a n.toNat then #[.int .u32 (leN f (a - 2147483648) n.toNat : Int), .int .i64 0] else #[.int .u32 0, .int .i64 18]
theorem shl_or (f : Nat → Nat) (hf : ∀ i, f i < 256) (o k : Nat) (hk : k < 4) : bits .or .u32 (leN f o k : Int) (IntKind.u32.wrap ((f (o + k) : Int) * 2 ^ (8 * k))) = (leN f o (k + 1) : Int) := by
  have h1 : ((f (o + k) : Int) * 2 ^ (8 * k)) = ((f (o + k) * 2 ^ (8 * k) : Nat) : Int) := by push_cast; rfl
  have h2 : f (o + k) * 2 ^ (8 * k) < 4294967296 := by
    have := hf (o + k)
    have hs : k = 0 ∨ k = 1 ∨ k = 2 ∨ k = 3 := by omega
    rcases hs with rfl | rfl | rfl | rfl <;> simp at * <;> omega
  rw [h1, u32_id h2, or_le32 _ _ _ (leN_lt f hf o k) (hf _) hk]; rfl
set_option maxRecDepth 100000 in
set_option maxHeartbeats 1600000 in
theorem load_ok (f : Nat → Nat) (hf : ∀ i, f i < 256) (a o n b : Nat) (ho : a = o + 2147483648) (hn : n = 1 ∨ n = 2 ∨ n = 4) (hr : o + n ≤ 65536) (w : World) (hw : w.row? b = some (mem f)) :
    Calls Try.prog 10 #[.pointer (some ⟨b, 0, none⟩), .int .u32 (a : Int), .int .i64 (n : Int)] w fun e w' => e = .returned (.tuple #[.int .u32 (leN f o n : Int), .int .i64 0]) ∧ w' = w := by
  have hi : inRam a n = true := by simp [inRam]; omega
  have hh := has_any a n (by omega) (by omega) ⟨b, 0, none⟩ w
  rw [hi] at hh
  have y1 : IntKind.u32.wrap ((a : Int) - 2147483648) = o := by rw [ho]; simp [IntKind.wrap, IntKind.bits, IntKind.signed]; omega
  clear ho hi
  rcases hn with rfl | rfl | rfl
  · have hu : IntKind.u32.wrap (1 : Int) = 1 := rfl
    go_enter Try.func10, Try.ntmps10
    go_wp2_with fail
    refine hh.mono ?_
    rintro e w1 ⟨rfl, rfl⟩
    go_wp2
    clear hh hu
    go_loopw [8, 29] (fun x i wr => ∃ k : Nat, k ≤ 1 ∧ i = .int .i64 k ∧ x = .int .u32 (leN f o k : Int) ∧ wr = w1) (fun _ i _ => 1 - (intOf i).toNat)
    case atStart => exact ⟨0, by omega, rfl, rfl, rfl⟩
    case round =>
      obtain ⟨k, hk, rfl, rfl, rfl⟩ := hrel
      obtain rfl | rfl : k = 0 ∨ k = 1 := by omega
      · have c1 := mem_row hw o (by omega)
        have b1 := hf o
        have y3 : IntKind.u32.wrap (o : Int) = (o : Int) := u32_id (by omega)
        have y8 : IntKind.u32.wrap (f o : Int) = f o := u32_id (by omega)
        have y10 : (o : Int) < 65536 := by omega
        have z2 : bits .or .u32 (leN f o 0 : Int) (f o : Int) = (leN f o 1 : Int) := by
          have := shl_or f hf o 0 (by omega)
          simpa [y8] using this
        go_wp2
        go_roundw
        case rel => exact ⟨1, by omega, rfl, by congr 1, trivial⟩
        case measure => simp [intOf]
      · go_wp2
        go_ret2
        exact ⟨rfl, rfl⟩
  · have hu : IntKind.u32.wrap (2 : Int) = 2 := rfl
    go_enter Try.func10, Try.ntmps10
    go_wp2_with fail
    refine hh.mono ?_
    rintro e w1 ⟨rfl, rfl⟩
    go_wp2
    clear hh hu
    go_loopw [8, 29] (fun x i wr => ∃ k : Nat, k ≤ 2 ∧ i = .int .i64 k ∧ x = .int .u32 (leN f o k : Int) ∧ wr = w1) (fun _ i _ => 2 - (intOf i).toNat)
    case atStart => exact ⟨0, by omega, rfl, rfl, rfl⟩
    case round =>
      obtain ⟨k, hk, rfl, rfl, rfl⟩ := hrel
      by_cases hlt : k < 2
      · have c1 := mem_row hw (o + k) (by omega)
        have b1 := hf (o + k)
        have y2 : IntKind.u32.wrap (k : Int) = k := u32_id (by omega)
        have y3 : IntKind.u32.wrap ((o : Int) + k) = (o : Int) + k := by rw [show (o : Int) + k = ((o + k : Nat) : Int) from by omega]; exact u32_id (by omega)
        have y4 : ((o : Int) + k).toNat = o + k := by omega
        have y5 : IntKind.i64.wrap (8 * (k : Int)) = 8 * (k : Int) := IntWalk.i64_in _ (by omega)
        have y6 : (0 : Int) ≤ 8 * (k : Int) := by omega
        have y7 : (8 * (k : Int)).toNat = 8 * k := by omega
        have y8 : IntKind.u32.wrap (f (o + k) : Int) = f (o + k) := u32_id (by omega)
        have y9 : (0 : Int) ≤ (o : Int) + k := by omega
        have z2 : bits .or .u32 (leN f o k : Int) (IntKind.u32.wrap ((f (o + k) : Int) * 2 ^ (8 * k))) = (leN f o (k + 1) : Int) := shl_or f hf o k (by omega)
        have z3 : IntKind.i64.wrap ((k : Int) + 1) = (k : Int) + 1 := IntWalk.i64_in _ (by omega)
        go_wp2
        go_roundw
        case rel => exact ⟨k + 1, hlt, rfl, by congr 1, trivial⟩
        case measure => simp [intOf]; omega
      · obtain rfl : k = 2 := by omega
        go_wp2
        go_ret2
        exact ⟨rfl, rfl⟩
  · have hu : IntKind.u32.wrap (4 : Int) = 4 := rfl
    go_enter Try.func10, Try.ntmps10
    go_wp2_with fail
    refine hh.mono ?_
    rintro e w1 ⟨rfl, rfl⟩
    go_wp2
    clear hh hu
    go_loopw [8, 29] (fun x i wr => ∃ k : Nat, k ≤ 4 ∧ i = .int .i64 k ∧ x = .int .u32 (leN f o k : Int) ∧ wr = w1) (fun _ i _ => 4 - (intOf i).toNat)
    case atStart => exact ⟨0, by omega, rfl, rfl, rfl⟩
    case round =>
      obtain ⟨k, hk, rfl, rfl, rfl⟩ := hrel
      by_cases hlt : k < 4
      · have c1 := mem_row hw (o + k) (by omega)
        have b1 := hf (o + k)
        have y2 : IntKind.u32.wrap (k : Int) = k := u32_id (by omega)
        have y3 : IntKind.u32.wrap ((o : Int) + k) = (o : Int) + k := by rw [show (o : Int) + k = ((o + k : Nat) : Int) from by omega]; exact u32_id (by omega)
        have y4 : ((o : Int) + k).toNat = o + k := by omega
        have y5 : IntKind.i64.wrap (8 * (k : Int)) = 8 * (k : Int) := IntWalk.i64_in _ (by omega)
        have y6 : (0 : Int) ≤ 8 * (k : Int) := by omega
        have y7 : (8 * (k : Int)).toNat = 8 * k := by omega
        have y8 : IntKind.u32.wrap (f (o + k) : Int) = f (o + k) := u32_id (by omega)
        have y9 : (0 : Int) ≤ (o : Int) + k := by omega
        have z2 : bits .or .u32 (leN f o k : Int) (IntKind.u32.wrap ((f (o + k) : Int) * 2 ^ (8 * k))) = (leN f o (k + 1) : Int) := shl_or f hf o k (by omega)
        have z3 : IntKind.i64.wrap ((k : Int) + 1) = (k : Int) + 1 := IntWalk.i64_in _ (by omega)
        go_wp2
        go_roundw
        case rel => exact ⟨k + 1, hlt, rfl, by congr 1, trivial⟩
        case measure => simp [intOf]; omega
      · obtain rfl : k = 4 := by omega
        go_wp2
        go_ret2
        exact ⟨rfl, rfl⟩
end Go.Proofs.L
