/- Proved here: lemmas and contracts (Pz) for the laws of this seat, for all values of the stated types; no further condition. -/
import Derived.Test.YtikbkhhgbkpijaaProg
import Derived.Test.YtikbkhhgbkpijaaMem
open Go Go.RowKit
namespace Go.Proofs.L
/-- the zero bytes, as the table has them: a tree of lists of 64 -/
def zT : Nat → List Value
  | 0 => [Value.int .u8 0, Value.int .u8 0, Value.int .u8 0, Value.int .u8 0, Value.int .u8 0, Value.int .u8 0, Value.int .u8 0, Value.int .u8 0, Value.int .u8 0, Value.int .u8 0, Value.int .u8 0, Value.int .u8 0, Value.int .u8 0, Value.int .u8 0, Value.int .u8 0, Value.int .u8 0, Value.int .u8 0, Value.int .u8 0, Value.int .u8 0, Value.int .u8 0, Value.int .u8 0, Value.int .u8 0, Value.int .u8 0, Value.int .u8 0, Value.int .u8 0, Value.int .u8 0, Value.int .u8 0, Value.int .u8 0, Value.int .u8 0, Value.int .u8 0, Value.int .u8 0, Value.int .u8 0, Value.int .u8 0, Value.int .u8 0, Value.int .u8 0, Value.int .u8 0, Value.int .u8 0, Value.int .u8 0, Value.int .u8 0, Value.int .u8 0, Value.int .u8 0, Value.int .u8 0, Value.int .u8 0, Value.int .u8 0, Value.int .u8 0, Value.int .u8 0, Value.int .u8 0, Value.int .u8 0, Value.int .u8 0, Value.int .u8 0, Value.int .u8 0, Value.int .u8 0, Value.int .u8 0, Value.int .u8 0, Value.int .u8 0, Value.int .u8 0, Value.int .u8 0, Value.int .u8 0, Value.int .u8 0, Value.int .u8 0, Value.int .u8 0, Value.int .u8 0, Value.int .u8 0, Value.int .u8 0]
  | n + 1 => (zT n).append (zT n)
theorem zT_eq : ∀ n, zT n = List.replicate (64 * 2 ^ n) (Value.int .u8 0)
  | 0 => rfl
  | n + 1 => by
    show zT n ++ zT n = _
    rw [zT_eq n, List.replicate_append_replicate, Nat.pow_succ]
    congr 1; omega
theorem t72z : Try.t72.zero = some (.agg (zT 10).toArray) := by rfl
theorem zT10 : (zT 10).toArray = mem fun _ => 0 := by
  have h : (List.range RS).map (fun _ => Value.int .u8 ((0 : Nat) : Int)) = List.replicate RS (Value.int .u8 0) := by
    rw [List.map_const', List.length_range]; rfl
  rw [zT_eq, mem, cellsK, memL, List.map_map]
  show _ = ((List.range RS).map (fun _ => Value.int .u8 ((0 : Nat) : Int))).toArray
  rw [h, RS_eq, show 64 * 2 ^ 10 = 65536 from rfl]
theorem i72 : Try.prog.info? 72 = some Try.t72 := by rfl
theorem z72 (w : World) : (zeroValue 72).run Try.prog w = .ok (.agg (mem fun _ => 0)) w := by
  unfold zeroValue typeInfo
  simp only [Sem.run_bind, run_program, i72, Result.andThen_ok, Sem.run_pure, t72z, zT10]
end Go.Proofs.L
