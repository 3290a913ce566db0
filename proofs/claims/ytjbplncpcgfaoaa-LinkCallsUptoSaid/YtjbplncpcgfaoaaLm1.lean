/- Proved here: lemmas and contracts (Lm1) for the laws of this seat, for all values of the stated types; no further condition. -/
import Derived.Test.YtjbplncpcgfaoaaProg
import Derived.StillTailTactics
import Derived.Lib.Hide
import Derived.OwnWalk
import Derived.IntWalk
import Derived.Deep.DeepCutAuto
import Derived.Deep.CutBlock
import Derived.Test.YtjbplncpcgfaoaaMem
import Derived.Test.YtjbplncpcgfaoaaReg
import Derived.Test.YtjbplncpcgfaoaaRegT
import Derived.Test.YtjbplncpcgfaoaaPart
import Derived.Test.YtjbplncpcgfaoaaOwn2
open Go Go.RowKit
namespace Go.Proofs.L.M
/-- the zero bytes, as the table has them: a tree of lists of 64 -/
def zT : Nat → List Value
  | 0 => [Value.int .u8 0, Value.int .u8 0, Value.int .u8 0, Value.int .u8 0, Value.int .u8 0, Value.int .u8 0, Value.int .u8 0, Value.int .u8 0, Value.int .u8 0, Value.int .u8 0, Value.int .u8 0, Value.int .u8 0, Value.int .u8 0, Value.int .u8 0, Value.int .u8 0, Value.int .u8 0, Value.int .u8 0, Value.int .u8 0, Value.int .u8 0, Value.int .u8 0, Value.int .u8 0, Value.int .u8 0, Value.int .u8 0, Value.int .u8 0, Value.int .u8 0, Value.int .u8 0, Value.int .u8 0, Value.int .u8 0, Value.int .u8 0, Value.int .u8 0, Value.int .u8 0, Value.int .u8 0, Value.int .u8 0, Value.int .u8 0, Value.int .u8 0, Value.int .u8 0, Value.int .u8 0, Value.int .u8 0, Value.int .u8 0, Value.int .u8 0, Value.int .u8 0, Value.int .u8 0, Value.int .u8 0, Value.int .u8 0, Value.int .u8 0, Value.int .u8 0, Value.int .u8 0, Value.int .u8 0, Value.int .u8 0, Value.int .u8 0, Value.int .u8 0, Value.int .u8 0, Value.int .u8 0, Value.int .u8 0, Value.int .u8 0, Value.int .u8 0, Value.int .u8 0, Value.int .u8 0, Value.int .u8 0, Value.int .u8 0, Value.int .u8 0, Value.int .u8 0, Value.int .u8 0, Value.int .u8 0]
  | n + 1 => (zT n).append (zT n)
theorem zT_eq : ∀ n, zT n = List.replicate (64 * 2 ^ n) (Value.int .u8 0)
  | 0 => rfl
  | n + 1 => by
    show zT n ++ zT n = _
    rw [zT_eq n, List.replicate_append_replicate, Nat.pow_succ]
    congr 1; omega
theorem tMz : Try.t95.zero = some (.agg (zT 10).toArray) := by rfl
theorem zT10 : (zT 10).toArray = mem fun _ => 0 := by
  have h : (List.range RS).map (fun _ => Value.int .u8 ((0 : Nat) : Int)) = List.replicate RS (Value.int .u8 0) := by
    rw [List.map_const', List.length_range]; rfl
  rw [zT_eq, mem, cellsK, memL, List.map_map]
  show _ = ((List.range RS).map (fun _ => Value.int .u8 ((0 : Nat) : Int))).toArray
  exact (congrArg (fun n : Nat => (List.replicate n (Value.int .u8 0)).toArray) (show (64 * 2 ^ 10 : Nat) = RS by rw [RS_eq])).trans (congrArg List.toArray h.symm)
theorem iM : Try.prog.info? 95 = some Try.t95 := by kernel_rfl
theorem zM (w : World) : (zeroValue 95).run Try.prog w = .ok (.agg (mem fun _ => 0)) w := by
  unfold zeroValue typeInfo
  simp only [Sem.run_bind, run_program, iM, Result.andThen_ok, Sem.run_pure, tMz, zT10]
end Go.Proofs.L.M
open Go Go.RowKit Go.Lib
namespace Go.Proofs.L.M
theorem u64_id {n : Int} (h : 0 ≤ n) (h1 : n < 18446744073709551616) : IntKind.u64.wrap n = n := by
  simp [IntKind.wrap, IntKind.bits, IntKind.signed]; omega
set_option maxRecDepth 100000 in
set_option maxHeartbeats 800000 in
theorem within_any (a n b m : Nat) (ha : a < 4294967296) (hn : n < 4294967296) (hb : b < 4294967296) (hm : m < 4294967296) (w : World) :
    Calls Try.prog 30 #[.int .u32 (a : Int), .int .u32 (n : Int), .int .u32 (b : Int), .int .u32 (m : Int)] w fun e w' => e = .returned (.bool (decide (b ≤ a ∧ a + n ≤ b + m))) ∧ w' = w := by
  have h1 := u64_id (n := (a : Int)) (by omega) (by omega)
  have h2 := u64_id (n := (n : Int)) (by omega) (by omega)
  have h3 := u64_id (n := (b : Int)) (by omega) (by omega)
  have h4 := u64_id (n := (m : Int)) (by omega) (by omega)
  have h5 := u64_id (n := (a : Int) + n) (by omega) (by omega)
  have h6 := u64_id (n := (b : Int) + m) (by omega) (by omega)
  go_enter Try.func30, Try.ntmps30
  by_cases hab : b ≤ a
  · have hab1 : decide ((a : Int) ≥ b) = true := by simpa using hab
    go_wp2
    go_ret
    refine ⟨congrArg (fun b => Ending.returned (.bool b)) ?_, rfl⟩
    show decide ((a : Int) + n ≤ b + m) = _
    rw [decide_eq_decide]; simp [hab]; omega
  · have hab1 : decide ((a : Int) ≥ b) = false := by simpa using hab
    go_wp2
    go_ret
    exact ⟨by simp [hab], rfl⟩
set_option maxRecDepth 100000 in
set_option maxHeartbeats 800000 in
theorem has_any (a n : Nat) (ha : a < 4294967296) (hn : n < 4294967296) (p : Addr) (w : World) :
    Calls Try.prog 25 #[.pointer (some p), .int .u32 (a : Int), .int .u32 (n : Int)] w fun e w' => e = .returned (.bool (inRam a n)) ∧ w' = w := by
  have hw := within_any a n 2147483648 65536 ha hn (by decide) (by decide) w
  go_enter Try.func25, Try.ntmps25
  go_wp2_with fail
  refine hw.mono ?_
  rintro e w1 ⟨rfl, rfl⟩
  go_wp2
  go_ret
  refine ⟨?_, rfl⟩
  show Ending.returned (Value.bool _) = _
  rw [inRam, Bool.decide_and]
set_option maxRecDepth 100000 in
set_option maxHeartbeats 800000 in
theorem has_nil (a n : Nat) (w : World) :
    Calls Try.prog 25 #[.pointer none, .int .u32 (a : Int), .int .u32 (n : Int)] w fun e w' => e = .returned (.bool false) ∧ w' = w := by
  go_enter Try.func25, Try.ntmps25
  go_wp2
  go_ret
  exact ⟨rfl, rfl⟩
def ok3 (n : Int) : Bool := decide (n = 1 ∨ n = 2 ∨ n = 4)
theorem ok3_cases {n : Int} (h : ok3 n = true) : n = 1 ∨ n = 2 ∨ n = 4 := by simpa [ok3] using h
/-- what Load returns -/
def ldV (f : Nat → Nat) (a : Nat) (n : Int) : Array Value :=
  if ok3 n && inRam a n.toNat then #[.int .u32 (leN f (a - 2147483648) n.toNat : Int), .int .i64 0] else #[.int .u32 0, .int .i64 18]
theorem shl_or (f : Nat → Nat) (hf : ∀ i, f i < 256) (o k : Nat) (hk : k < 4) : bits .or .u32 (leN f o k : Int) (IntKind.u32.wrap ((f (o + k) : Int) * 2 ^ (8 * k))) = (leN f o (k + 1) : Int) := by
  have h1 : ((f (o + k) : Int) * 2 ^ (8 * k)) = ((f (o + k) * 2 ^ (8 * k) : Nat) : Int) := by push_cast; rfl
  have h2 : f (o + k) * 2 ^ (8 * k) < 4294967296 := by
    have := hf (o + k)
    have hs : k = 0 ∨ k = 1 ∨ k = 2 ∨ k = 3 := by omega
    rcases hs with rfl | rfl | rfl | rfl <;> simp at * <;> omega
  rw [h1, u32_id h2, or_le32 _ _ _ (leN_lt f hf o k) (hf _) hk]; rfl
set_option maxRecDepth 100000 in
set_option maxHeartbeats 1600000 in
theorem load_ok (f : Nat → Nat) (hf : ∀ i, f i < 256) (a o n b : Nat) (ho : a = o + 2147483648) (hn : n = 1 ∨ n = 2 ∨ n = 4) (hr : o + n ≤ 65536) (w : World) (hw : w.row? b = some (mem f)) :
    Calls Try.prog 16 #[.pointer (some ⟨b, 0, none⟩), .int .u32 (a : Int), .int .i64 (n : Int)] w fun e w' => e = .returned (.tuple #[.int .u32 (leN f o n : Int), .int .i64 0]) ∧ w' = w := by
  have hi : inRam a n = true := by simp [inRam]; omega
  have hh := has_any a n (by omega) (by omega) ⟨b, 0, none⟩ w
  rw [hi] at hh
  have y1 : IntKind.u32.wrap ((a : Int) - 2147483648) = o := by rw [ho]; simp [IntKind.wrap, IntKind.bits, IntKind.signed]; omega
  clear ho hi
  rcases hn with rfl | rfl | rfl
  · have hu : IntKind.u32.wrap (1 : Int) = 1 := rfl
    go_enter Try.func16, Try.ntmps16
    go_wp2_with fail
    refine hh.mono ?_
    rintro e w1 ⟨rfl, rfl⟩
    go_wp2
    clear hh hu
    go_loopw [8, 29] (fun x i wr => ∃ k : Nat, k ≤ 1 ∧ i = .int .i64 k ∧ x = .int .u32 (leN f o k : Int) ∧ wr = w1) (fun _ i _ => 1 - (intOf i).toNat)
    case atStart => exact ⟨0, by omega, rfl, rfl, rfl⟩
    case round =>
      obtain ⟨k, hk, rfl, rfl, rfl⟩ := hrel
      obtain rfl | rfl : k = 0 ∨ k = 1 := by omega
      · have c1 := mem_row hw o (by omega)
        have b1 := hf o
        have y3 : IntKind.u32.wrap (o : Int) = (o : Int) := u32_id (by omega)
        have y8 : IntKind.u32.wrap (f o : Int) = f o := u32_id (by omega)
        have y10 : (o : Int) < 65536 := by omega
        have z2 : bits .or .u32 (leN f o 0 : Int) (f o : Int) = (leN f o 1 : Int) := by
          have := shl_or f hf o 0 (by omega)
          simpa [y8] using this
        go_wp2
        go_roundw
        case rel => exact ⟨1, by omega, rfl, by congr 1, trivial⟩
        case measure => simp [intOf]
      · go_wp2
        go_ret2
        exact ⟨rfl, rfl⟩
  · have hu : IntKind.u32.wrap (2 : Int) = 2 := rfl
    go_enter Try.func16, Try.ntmps16
    go_wp2_with fail
    refine hh.mono ?_
    rintro e w1 ⟨rfl, rfl⟩
    go_wp2
    clear hh hu
    go_loopw [8, 29] (fun x i wr => ∃ k : Nat, k ≤ 2 ∧ i = .int .i64 k ∧ x = .int .u32 (leN f o k : Int) ∧ wr = w1) (fun _ i _ => 2 - (intOf i).toNat)
    case atStart => exact ⟨0, by omega, rfl, rfl, rfl⟩
    case round =>
      obtain ⟨k, hk, rfl, rfl, rfl⟩ := hrel
      by_cases hlt : k < 2
      · have c1 := mem_row hw (o + k) (by omega)
        have b1 := hf (o + k)
        have y2 : IntKind.u32.wrap (k : Int) = k := u32_id (by omega)
        have y3 : IntKind.u32.wrap ((o : Int) + k) = (o : Int) + k := by rw [show (o : Int) + k = ((o + k : Nat) : Int) from by omega]; exact u32_id (by omega)
        have y4 : ((o : Int) + k).toNat = o + k := by omega
        have y5 : IntKind.i64.wrap (8 * (k : Int)) = 8 * (k : Int) := IntWalk.i64_in _ (by omega)
        have y6 : (0 : Int) ≤ 8 * (k : Int) := by omega
        have y7 : (8 * (k : Int)).toNat = 8 * k := by omega
        have y8 : IntKind.u32.wrap (f (o + k) : Int) = f (o + k) := u32_id (by omega)
        have y9 : (0 : Int) ≤ (o : Int) + k := by omega
        have z2 : bits .or .u32 (leN f o k : Int) (IntKind.u32.wrap ((f (o + k) : Int) * 2 ^ (8 * k))) = (leN f o (k + 1) : Int) := shl_or f hf o k (by omega)
        have z3 : IntKind.i64.wrap ((k : Int) + 1) = (k : Int) + 1 := IntWalk.i64_in _ (by omega)
        go_wp2
        go_roundw
        case rel => exact ⟨k + 1, hlt, rfl, by congr 1, trivial⟩
        case measure => simp [intOf]; omega
      · obtain rfl : k = 2 := by omega
        go_wp2
        go_ret2
        exact ⟨rfl, rfl⟩
  · have hu : IntKind.u32.wrap (4 : Int) = 4 := rfl
    go_enter Try.func16, Try.ntmps16
    go_wp2_with fail
    refine hh.mono ?_
    rintro e w1 ⟨rfl, rfl⟩
    go_wp2
    clear hh hu
    go_loopw [8, 29] (fun x i wr => ∃ k : Nat, k ≤ 4 ∧ i = .int .i64 k ∧ x = .int .u32 (leN f o k : Int) ∧ wr = w1) (fun _ i _ => 4 - (intOf i).toNat)
    case atStart => exact ⟨0, by omega, rfl, rfl, rfl⟩
    case round =>
      obtain ⟨k, hk, rfl, rfl, rfl⟩ := hrel
      by_cases hlt : k < 4
      · have c1 := mem_row hw (o + k) (by omega)
        have b1 := hf (o + k)
        have y2 : IntKind.u32.wrap (k : Int) = k := u32_id (by omega)
        have y3 : IntKind.u32.wrap ((o : Int) + k) = (o : Int) + k := by rw [show (o : Int) + k = ((o + k : Nat) : Int) from by omega]; exact u32_id (by omega)
        have y4 : ((o : Int) + k).toNat = o + k := by omega
        have y5 : IntKind.i64.wrap (8 * (k : Int)) = 8 * (k : Int) := IntWalk.i64_in _ (by omega)
        have y6 : (0 : Int) ≤ 8 * (k : Int) := by omega
        have y7 : (8 * (k : Int)).toNat = 8 * k := by omega
        have y8 : IntKind.u32.wrap (f (o + k) : Int) = f (o + k) := u32_id (by omega)
        have y9 : (0 : Int) ≤ (o : Int) + k := by omega
        have z2 : bits .or .u32 (leN f o k : Int) (IntKind.u32.wrap ((f (o + k) : Int) * 2 ^ (8 * k))) = (leN f o (k + 1) : Int) := shl_or f hf o k (by omega)
        have z3 : IntKind.i64.wrap ((k : Int) + 1) = (k : Int) + 1 := IntWalk.i64_in _ (by omega)
        go_wp2
        go_roundw
        case rel => exact ⟨k + 1, hlt, rfl, by congr 1, trivial⟩
        case measure => simp [intOf]; omega
      · obtain rfl : k = 4 := by omega
        go_wp2
        go_ret2
        exact ⟨rfl, rfl⟩
end Go.Proofs.L.M
open Go Go.RowKit Go.Lib
namespace Go.Proofs.L.M
attribute [local go_sem] mem_size mem_all
set_option maxRecDepth 100000 in
set_option maxHeartbeats 1600000 in
theorem store_ok (f : Nat → Nat) (a o n b x : Nat) (ho : a = o + 2147483648) (hn : n = 1 ∨ n = 2 ∨ n = 4) (hr : o + n ≤ 65536) (hx : x < 4294967296) (w : World) (hw : w.row? b = some (mem f)) :
    Calls Try.prog 58 #[.pointer (some ⟨b, 0, none⟩), .int .u32 (a : Int), .int .i64 (n : Int), .int .u32 (x : Int)] w fun e w' => e = .returned (.int .i64 0) ∧ w'.row? b = some (mem (stN f o x n)) ∧ Chg [b] w w' := by
  have hi : inRam a n = true := by simp [inRam]; omega
  have hh := has_any a n (by omega) (by omega) ⟨b, 0, none⟩ w
  rw [hi] at hh
  have y1 : IntKind.u32.wrap ((a : Int) - 2147483648) = o := by rw [ho]; simp [IntKind.wrap, IntKind.bits, IntKind.signed]; omega
  clear ho hi
  rcases hn with rfl | rfl | rfl
  · have hu : IntKind.u32.wrap (1 : Int) = 1 := rfl
    go_enter Try.func58, Try.ntmps58
    go_wp2_with fail
    refine hh.mono ?_
    rintro e w1 ⟨rfl, rfl⟩
    go_wp2
    clear hh hu
    go_loopw [29] (fun i wr => ∃ k : Nat, k ≤ 1 ∧ i = .int .i64 k ∧ wr.row? b = some (mem (stN f o x k)) ∧ Chg [b] w1 wr) (fun i _ => 1 - (intOf i).toNat)
    case atStart => exact ⟨0, by omega, rfl, hw, Chg.refl _ _⟩
    case round =>
      obtain ⟨k, hk, rfl, hw1, hC⟩ := hrel
      clear hw
      obtain rfl | rfl : k = 0 ∨ k = 1 := by omega
      · have c1 := mem_row hw1 o (by omega)
        have f1 := row_free hw1 o
        have w0 : IntKind.u32.wrap 0 = 0 := rfl
        have w1 : IntKind.i64.wrap 0 = 0 := rfl
        have y3 : IntKind.u32.wrap (o : Int) = (o : Int) := u32_id (by omega)
        have z1 : IntKind.u8.wrap (x : Int) = ((x % 256 : Nat) : Int) := by simp [IntKind.wrap, IntKind.bits, IntKind.signed]
        go_wp2
        go_still_tail 13, (by kernel_rfl)
        go_wp2
        go_roundw
        case rel =>
          refine ⟨1, by omega, rfl, ?_, (hC.drewN _).setCell (Or.inl (by simp)) _⟩
          go_simp
          have e := mem_set (stN f o x 0) o (x % 256)
          push_cast at e
          rw [e]; simp [stN]
        case measure => simp [intOf]
      · go_wp2
        go_ret
        exact ⟨rfl, hw1, hC⟩
  · have hu : IntKind.u32.wrap (2 : Int) = 2 := rfl
    go_enter Try.func58, Try.ntmps58
    go_wp2_with fail
    refine hh.mono ?_
    rintro e w1 ⟨rfl, rfl⟩
    go_wp2
    clear hh hu
    go_loopw [29] (fun i wr => ∃ k : Nat, k ≤ 2 ∧ i = .int .i64 k ∧ wr.row? b = some (mem (stN f o x k)) ∧ Chg [b] w1 wr) (fun i _ => 2 - (intOf i).toNat)
    case atStart => exact ⟨0, by omega, rfl, hw, Chg.refl _ _⟩
    case round =>
      obtain ⟨k, hk, rfl, hw1, hC⟩ := hrel
      clear hw
      by_cases hlt : k < 2
      · have c1 := mem_row hw1 (o + k) (by omega)
        have f1 := row_free hw1 (o + k)
        have y2 : IntKind.u32.wrap (k : Int) = k := u32_id (by omega)
        have y3 : IntKind.u32.wrap ((o : Int) + k) = (o : Int) + k := by rw [show (o : Int) + k = ((o + k : Nat) : Int) from by omega]; exact u32_id (by omega)
        have y4 : ((o : Int) + k).toNat = o + k := by omega
        have y5 : IntKind.i64.wrap (8 * (k : Int)) = 8 * (k : Int) := IntWalk.i64_in _ (by omega)
        have y6 : (0 : Int) ≤ 8 * (k : Int) := by omega
        have y7 : (8 * (k : Int)).toNat = 8 * k := by omega
        have y9 : (0 : Int) ≤ (o : Int) + k := by omega
        have z1 : IntKind.u8.wrap ((x : Int) / 2 ^ (8 * k)) = ((x / 2 ^ (8 * k) % 256 : Nat) : Int) := by
          rw [show (x : Int) / 2 ^ (8 * k) = ((x / 2 ^ (8 * k) : Nat) : Int) from by push_cast; rfl]
          simp [IntKind.wrap, IntKind.bits, IntKind.signed]
        have z3 : IntKind.i64.wrap ((k : Int) + 1) = (k : Int) + 1 := IntWalk.i64_in _ (by omega)
        go_wp2
        go_still_tail 13, (by kernel_rfl)
        go_wp2
        go_roundw
        case rel =>
          refine ⟨k + 1, hlt, rfl, ?_, (hC.drewN _).setCell (Or.inl (by simp)) _⟩
          go_simp
          have e := mem_set (stN f o x k) (o + k) (x / 2 ^ (8 * k) % 256)
          push_cast at e
          rw [e]; rfl
        case measure => simp [intOf]; omega
      · obtain rfl : k = 2 := by omega
        go_wp2
        go_ret
        exact ⟨rfl, hw1, hC⟩
  · have hu : IntKind.u32.wrap (4 : Int) = 4 := rfl
    go_enter Try.func58, Try.ntmps58
    go_wp2_with fail
    refine hh.mono ?_
    rintro e w1 ⟨rfl, rfl⟩
    go_wp2
    clear hh hu
    go_loopw [29] (fun i wr => ∃ k : Nat, k ≤ 4 ∧ i = .int .i64 k ∧ wr.row? b = some (mem (stN f o x k)) ∧ Chg [b] w1 wr) (fun i _ => 4 - (intOf i).toNat)
    case atStart => exact ⟨0, by omega, rfl, hw, Chg.refl _ _⟩
    case round =>
      obtain ⟨k, hk, rfl, hw1, hC⟩ := hrel
      clear hw
      by_cases hlt : k < 4
      · have c1 := mem_row hw1 (o + k) (by omega)
        have f1 := row_free hw1 (o + k)
        have y2 : IntKind.u32.wrap (k : Int) = k := u32_id (by omega)
        have y3 : IntKind.u32.wrap ((o : Int) + k) = (o : Int) + k := by rw [show (o : Int) + k = ((o + k : Nat) : Int) from by omega]; exact u32_id (by omega)
        have y4 : ((o : Int) + k).toNat = o + k := by omega
        have y5 : IntKind.i64.wrap (8 * (k : Int)) = 8 * (k : Int) := IntWalk.i64_in _ (by omega)
        have y6 : (0 : Int) ≤ 8 * (k : Int) := by omega
        have y7 : (8 * (k : Int)).toNat = 8 * k := by omega
        have y9 : (0 : Int) ≤ (o : Int) + k := by omega
        have z1 : IntKind.u8.wrap ((x : Int) / 2 ^ (8 * k)) = ((x / 2 ^ (8 * k) % 256 : Nat) : Int) := by
          rw [show (x : Int) / 2 ^ (8 * k) = ((x / 2 ^ (8 * k) : Nat) : Int) from by push_cast; rfl]
          simp [IntKind.wrap, IntKind.bits, IntKind.signed]
        have z3 : IntKind.i64.wrap ((k : Int) + 1) = (k : Int) + 1 := IntWalk.i64_in _ (by omega)
        go_wp2
        go_still_tail 13, (by kernel_rfl)
        go_wp2
        go_roundw
        case rel =>
          refine ⟨k + 1, hlt, rfl, ?_, (hC.drewN _).setCell (Or.inl (by simp)) _⟩
          go_simp
          have e := mem_set (stN f o x k) (o + k) (x / 2 ^ (8 * k) % 256)
          push_cast at e
          rw [e]; rfl
        case measure => simp [intOf]; omega
      · obtain rfl : k = 4 := by omega
        go_wp2
        go_ret
        exact ⟨rfl, hw1, hC⟩
end Go.Proofs.L.M
open Go Go.RowKit Go.Lib
namespace Go.Proofs.L.M
attribute [local go_sem] mem_size mem_all
attribute [local go_sem ↓] zM
set_option maxRecDepth 100000 in
set_option maxHeartbeats 1600000 in
theorem new_ok (w : World) : Calls Try.prog 13 #[] w fun e w' => e = .returned (.pointer (some ⟨w.heap.size, 0, none⟩)) ∧ w' = w.alloc (.cells (mem fun _ => 0) 95) := by
  go_enter Try.func13, Try.ntmps13
  go_wp2
  go_ret
  exact ⟨rfl, rfl⟩
theorem new_row (w : World) : (w.alloc (.cells (mem fun _ => 0) 95)).row? w.heap.size = some (mem fun _ => 0) := row_alloc_at _ _ _ _ rfl
end Go.Proofs.L.M
