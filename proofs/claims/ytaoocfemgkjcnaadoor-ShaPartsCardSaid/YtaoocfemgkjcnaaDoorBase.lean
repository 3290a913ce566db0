/- Proved here: lemmas and contracts (Base) for the laws of this seat, for all values of the stated types; no further condition. -/
import Derived.Test.YtaoocfemgkjcnaaDoorProg
import Derived.Test.YtaoocfemgkjcnaaDoorRows
import Derived.StillTailTactics
import Derived.Lib.Hide
import Derived.OwnWalk
import Derived.Deep.DeepCutAuto
import Derived.Deep.CutBlock
import Derived.ProofKit
import Derived.LaidMore
import Derived.OpenShut
import Derived.Stop.Joined
import Derived.Test.YtaoocfemgkjcnaaDoorRow
import Derived.Test.YtaoocfemgkjcnaaDoorRegT
import Derived.Test.YtaoocfemgkjcnaaDoorPart
import Derived.Test.YtaoocfemgkjcnaaDoorMem
open Go Go.RowKit Go.Lib Go.ChangeShapes Go.WideShapes Go.ChangeAt Go.WideMaps Go.WideElems
open Go.Proofs.YtaoocfemgkjcnaaDoor
namespace Go.Proofs.L
attribute [local irreducible] wpT
def addsL : List Nat := [1116352408, 1899447441, 3049323471, 3921009573, 961987163, 1508970993, 2453635748, 2870763221, 3624381080, 310598401, 607225278, 1426881987, 1925078388, 2162078206, 2614888103, 3248222580, 3835390401, 4022224774, 264347078, 604807628, 770255983, 1249150122, 1555081692, 1996064986, 2554220882, 2821834349, 2952996808, 3210313671, 3336571891, 3584528711, 113926993, 338241895, 666307205, 773529912, 1294757372, 1396182291, 1695183700, 1986661051, 2177026350, 2456956037, 2730485921, 2820302411, 3259730800, 3345764771, 3516065817, 3600352804, 4094571909, 275423344, 430227734, 506948616, 659060556, 883997877, 958139571, 1322822218, 1537002063, 1747873779, 1955562222, 2024104815, 2227730452, 2361852424, 2428436474, 2756734187, 3204031479, 3329325298]
/-- what the listed variable gives the walks -/
def LaidOk (W : World) : Prop := ∀ (i c : Nat), addsL[i]? = some c → W.cell? ⟨0, i, none⟩ = some (.int .u32 (c : Int))
theorem gTab : Tryd.prog.globalNamed "portico/sha.adds" = some 0 := by kernel_rfl
theorem tTab : (Tryd.prog.globals[0]?).map (·.type) = some 46 := by kernel_rfl
theorem of_laid {W : World} (h : laidMetH Tryd.prog [("portico/sha.adds", Rows.laid_portico_sha_adds)] W) : LaidOk W := by
  rw [MakeChecks.laidMetH_plain _ _ _ (by kernel_rfl)] at h
  obtain ⟨ps, ⟨g0, t0, cs0, f0, p0, q0, hg0, ht0, hv0, hd0, _, _⟩, _, _⟩ := h
  obtain rfl := Option.some.inj (gTab.symm.trans hg0)
  obtain rfl := Option.some.inj (tTab.symm.trans ht0)
  obtain ⟨xs, m1, _, hx1, hlen, hn3, hel⟩ := DataW.trod_array Tryd.underlying46 hd0
  intro i c hc
  have hi : i < 64 := by
    have := (List.getElem?_eq_some_iff.1 hc).1
    exact Nat.lt_of_lt_of_le this (by decide)
  have h0 := hel i hi
  have h2 : xs[i]? = some (xs[i]'(by omega)) := by simp
  rw [h2] at h0
  obtain ⟨k, e1, e2, _⟩ := DataW.trod_int Tryd.underlying40 h0
  have c22 : Tryd.prog.cellsOf 40 = 1 := by kernel_rfl
  rw [c22, Nat.mul_one] at e1
  have hv := World.var?_cell gTab hv0 i
  have e3 : cs0[i]? = some (.int .u32 k) := by
    have := congrArg (fun l => l[0]?) e1
    simp only [List.getElem?_take, List.getElem?_drop, Nat.zero_lt_one, if_true, Nat.add_zero, List.getElem?_cons_zero] at this
    rw [← this]; simp
  have e4 : (Rows.laid_portico_sha_adds : DataW Unit) = .agg (addsL.map fun (c : Nat) => .lit (.int .u32 (c : Int))) := rfl
  rw [e4] at hx1
  simp only [Prod.mk.injEq, DataW.agg.injEq] at hx1
  have e5 := congrArg (fun l => l[i]?) hx1.1
  simp only [List.getElem?_map, hc, h2, Option.map_some, e2, Option.some.injEq, DataW.lit.injEq, Lit.int.injEq, true_and] at e5
  rw [hv, e3, e5]
theorem u32w (z : Int) : IntKind.u32.wrap z = z % 4294967296 := IntKind.wrap_u32 z
theorem u64w (z : Int) : IntKind.u64.wrap z = z % 18446744073709551616 := IntKind.wrap_u64 z
theorem bit_u32 (a b : Nat) (ha : a < 4294967296) (hb : b < 4294967296) :
    bits .or .u32 (a : Int) (b : Int) = ((a ||| b : Nat) : Int) ∧ bits .xor .u32 (a : Int) (b : Int) = ((a ^^^ b : Nat) : Int) ∧ bits .and .u32 (a : Int) (b : Int) = ((a &&& b : Nat) : Int) := by
  have e1 : (BitVec.ofInt 32 (a : Int)).toNat = a := by rw [BitVec.ofInt_natCast, BitVec.toNat_ofNat, Nat.mod_eq_of_lt (show a < 2 ^ 32 from ha)]
  have e2 : (BitVec.ofInt 32 (b : Int)).toNat = b := by rw [BitVec.ofInt_natCast, BitVec.toNat_ofNat, Nat.mod_eq_of_lt (show b < 2 ^ 32 from hb)]
  refine ⟨?_, ?_, ?_⟩
  · show IntKind.u32.wrap ((BitVec.ofInt 32 (a : Int) ||| BitVec.ofInt 32 (b : Int)).toNat : Int) = _
    rw [BitVec.toNat_or, e1, e2, u32w]
    have : a ||| b < 2 ^ 32 := Nat.or_lt_two_pow ha hb
    omega
  · show IntKind.u32.wrap ((BitVec.ofInt 32 (a : Int) ^^^ BitVec.ofInt 32 (b : Int)).toNat : Int) = _
    rw [BitVec.toNat_xor, e1, e2, u32w]
    have : a ^^^ b < 2 ^ 32 := Nat.xor_lt_two_pow ha hb
    omega
  · show IntKind.u32.wrap ((BitVec.ofInt 32 (a : Int) &&& BitVec.ofInt 32 (b : Int)).toNat : Int) = _
    rw [BitVec.toNat_and, e1, e2, u32w]
    have : a &&& b < 2 ^ 32 := Nat.and_lt_two_pow _ hb
    omega
/-- x turned to the left by s -/
def rotl (x s : Nat) : Nat := (x * 2 ^ s % 4294967296) ||| (x / 2 ^ (32 - s))
theorem rotl_lt (x s : Nat) (hx : x < 4294967296) : rotl x s < 4294967296 := by
  have h1 : x * 2 ^ s % 4294967296 < 2 ^ 32 := Nat.mod_lt _ (by decide)
  have h2 : x / 2 ^ (32 - s) < 2 ^ 32 := Nat.lt_of_le_of_lt (Nat.div_le_self _ _) hx
  exact Nat.or_lt_two_pow h1 h2
set_option maxRecDepth 100000 in
theorem rot_any (x s : Nat) (k : Int) (hx : x < 4294967296) (hs : s < 32) (hk : bits .and .u64 (IntKind.u64.wrap k) 31 = (s : Int)) (w : World) :
    Calls Tryd.prog 16 #[.int .u32 (x : Int), .int .i64 k] w fun e w' => e = .returned (.int .u32 ((rotl x s : Nat) : Int)) ∧ w' = w := by
  obtain ⟨u, hu⟩ : ∃ u, u = x * 2 ^ s % 4294967296 := ⟨_, rfl⟩
  obtain ⟨v, hv⟩ : ∃ v, v = x / 2 ^ (32 - s) := ⟨_, rfl⟩
  have hr : rotl x s = u ||| v := by rw [hu, hv]; rfl
  have hul : u < 4294967296 := by rw [hu]; exact Nat.mod_lt _ (by decide)
  have hvl : v < 4294967296 := by rw [hv]; exact Nat.lt_of_le_of_lt (Nat.div_le_self _ _) hx
  have hb := (bit_u32 u v hul hvl).1
  rw [hr]
  go_enter Tryd.func16, Tryd.ntmps16
  go_wp2
  go_ret
  refine ⟨?_, rfl⟩
  have e1 : (x : Int) * 2 ^ s % 4294967296 = (u : Int) := by rw [hu, Int.natCast_emod, Int.natCast_mul, Int.natCast_pow]; rfl
  have e2 : (x : Int) / 2 ^ (32 - s) = (v : Int) := by rw [hv, Int.natCast_ediv, Int.natCast_pow]; rfl
  show Ending.returned (.int .u32 (bits .or .u32 ((x : Int) * 2 ^ s % 4294967296) ((x : Int) / 2 ^ (32 - s)))) = _
  rw [e1, e2, hb]
end Go.Proofs.L
