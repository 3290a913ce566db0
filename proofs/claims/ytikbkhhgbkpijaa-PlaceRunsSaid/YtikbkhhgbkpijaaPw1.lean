/- Proved here: lemmas and contracts (Pw1) for the laws of this seat, for all values of the stated types; no further condition. -/
import Derived.Test.YtikbkhhgbkpijaaPl2b
open Go Go.RowKit Go.Lib
namespace Go.Proofs.L
attribute [local irreducible] wpT
attribute [local go_sem] mem_size mem_all
attribute [local go_sem ↓] z72
/-! the program's Load, Store, Get out of RAM or with another number of bytes; Copy -/
set_option maxRecDepth 100000 in
set_option maxHeartbeats 1600000 in
theorem load_bad (a : Nat) (n : Int) (v : Value) (h1 : n ≠ 1) (h2 : n ≠ 2) (h4 : n ≠ 4) (w : World) :
    Calls Try.prog 10 #[v, .int .u32 (a : Int), .int .i64 n] w fun e w' => e = .returned (.tuple #[.int .u32 0, .int .i64 18]) ∧ w' = w := by
  have b1 : (n != 1) = true := by rw [bne_iff_ne]; exact h1
  have b2 : (n != 2) = true := by rw [bne_iff_ne]; exact h2
  have b4 : (n != 4) = true := by rw [bne_iff_ne]; exact h4
  clear h1 h2 h4
  go_enter Try.func10, Try.ntmps10
  go_wp2
  go_ret2
  exact ⟨rfl, rfl⟩
set_option maxRecDepth 100000 in
set_option maxHeartbeats 1600000 in
theorem store_bad (a : Nat) (n : Int) (x v : Value) (h1 : n ≠ 1) (h2 : n ≠ 2) (h4 : n ≠ 4) (w : World) :
    Calls Try.prog 9 #[v, .int .u32 (a : Int), .int .i64 n, x] w fun e w' => e = .returned (.int .i64 18) ∧ w' = w := by
  have b1 : (n != 1) = true := by rw [bne_iff_ne]; exact h1
  have b2 : (n != 2) = true := by rw [bne_iff_ne]; exact h2
  have b4 : (n != 4) = true := by rw [bne_iff_ne]; exact h4
  clear h1 h2 h4
  go_enter Try.func9, Try.ntmps9
  go_wp2
  go_ret
  exact ⟨rfl, rfl⟩
set_option maxRecDepth 100000 in
set_option maxHeartbeats 1600000 in
theorem store_err (a n : Nat) (p : Addr) (x : Value) (ha : a < 4294967296) (hn : n = 1 ∨ n = 2 ∨ n = 4) (hr : inRam a n = false) (w : World) :
    Calls Try.prog 9 #[.pointer (some p), .int .u32 (a : Int), .int .i64 (n : Int), x] w fun e w' => e = .returned (.int .i64 18) ∧ w' = w := by
  have hh := has_any a n ha (by omega) p w
  rw [hr] at hh
  clear hr
  rcases hn with rfl | rfl | rfl
  · have hu : IntKind.u32.wrap (1 : Int) = 1 := rfl
    go_enter Try.func9, Try.ntmps9
    go_wp2_with fail
    refine hh.mono ?_
    rintro e w1 ⟨rfl, rfl⟩
    go_wp2
    go_ret
    exact ⟨rfl, rfl⟩
  · have hu : IntKind.u32.wrap (2 : Int) = 2 := rfl
    go_enter Try.func9, Try.ntmps9
    go_wp2_with fail
    refine hh.mono ?_
    rintro e w1 ⟨rfl, rfl⟩
    go_wp2
    go_ret
    exact ⟨rfl, rfl⟩
  · have hu : IntKind.u32.wrap (4 : Int) = 4 := rfl
    go_enter Try.func9, Try.ntmps9
    go_wp2_with fail
    refine hh.mono ?_
    rintro e w1 ⟨rfl, rfl⟩
    go_wp2
    go_ret
    exact ⟨rfl, rfl⟩
set_option maxRecDepth 100000 in
set_option maxHeartbeats 1600000 in
theorem get_bad (a n : Nat) (p : Addr) (ha : a < 4294967296) (hn : n < 4294967296) (hr : inRam a n = false) (w : World) :
    Calls Try.prog 12 #[.pointer (some p), .int .u32 (a : Int), .int .u32 (n : Int)] w fun e w' => e = .returned (.tuple #[.slice none 0 0, .int .i64 18]) ∧ w' = w := by
  have hh := has_any a n ha hn p w
  rw [hr] at hh
  clear hr
  go_enter Try.func12, Try.ntmps12
  go_wp2_with fail
  refine hh.mono ?_
  rintro e w1 ⟨rfl, rfl⟩
  go_wp2
  go_ret2
  exact ⟨rfl, rfl⟩
end Go.Proofs.L
