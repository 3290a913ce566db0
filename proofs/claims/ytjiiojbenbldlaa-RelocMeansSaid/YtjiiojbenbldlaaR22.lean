/- Proved here: lemmas and contracts (R22) for the laws of this seat, for all values of the stated types; no further condition. -/
import Derived.Test.YtjiiojbenbldlaaR18
open Go Go.RowKit Go.Lib
namespace Go.Proofs.L
/-! a job whose lists lie in rows of their own -/
theorem flat_get {α : Type} (c : Nat) (F : α → List Value) (hF : ∀ x, (F x).length = c) : ∀ (L : List α) (j : Nat) (x : α) (i : Nat) (u : Value), L[j]? = some x → (F x)[i]? = some u → (L.flatMap F)[j * c + i]? = some u
  | [], j, x, i, u, h, _ => by simp at h
  | a :: L, 0, x, i, u, h, hu => by
    obtain rfl := Option.some.inj h
    have hi : i < (F a).length := (List.getElem?_eq_some_iff.1 hu).1
    rw [List.flatMap_cons, Nat.zero_mul, Nat.zero_add, List.getElem?_append_left hi]
    exact hu
  | a :: L, j + 1, x, i, u, h, hu => by
    have h' : L[j]? = some x := h
    rw [List.flatMap_cons, List.getElem?_append_right (by rw [hF, Nat.add_mul]; omega), hF, show (j + 1) * c + i - c = j * c + i by rw [Nat.add_mul]; omega]
    exact flat_get c F hF L j x i u h' hu
theorem rls_row {w : World} {b : Nat} {L : List Rl} (h : w.row? b = some (L.flatMap RlC).toArray) (hb : ∀ r ∈ L, r.at_ < 4294967296 ∧ r.add < 4294967296) : RlsAt w b 0 L := fun j r hj => by
  refine ⟨fun i u hu => ?_, hb r (List.mem_of_getElem? hj)⟩
  rw [Nat.zero_add, row_cell h]
  simpa using flat_get 4 RlC (fun _ => rfl) L j r i u hj hu
theorem sps_row {w : World} {b : Nat} {L : List Sp} (h : w.row? b = some (L.flatMap SpC).toArray) (hb : ∀ r ∈ L, r.st < 4294967296 ∧ r.sz < 4294967296) : SpsAt w b 0 L := fun j r hj => by
  refine ⟨fun i u hu => ?_, hb r (List.mem_of_getElem? hj)⟩
  rw [Nat.zero_add, row_cell h]
  simpa using flat_get 3 SpC (fun _ => rfl) L j r i u hj hu
theorem nat_row {w : World} {b : Nat} {k : IntKind} {L : List Nat} (h : w.row? b = some (L.map fun x : Nat => Value.int k (x : Int)).toArray) (hb : ∀ x ∈ L, x < 4294967296) : NatAt w k b 0 L := fun j x hj => by
  refine ⟨?_, hb x (List.mem_of_getElem? hj)⟩
  rw [Nat.zero_add, row_cell h]
  simp [hj]
/-- Apply over lists in rows of their own -/
theorem apply_rows {w : World} {mb Rb Yb Sb bias nR nY nS cR cY cS : Nat} {pY : Option Addr} {e sg : Value} {Rs : List Rl} {Ys : List Nat} {Ss : List Sp} {f : Nat → Nat} (hR : w.row? Rb = some (Rs.flatMap RlC).toArray) (hRn : Rs.length = nR) (hRb : ∀ r ∈ Rs, r.at_ < 4294967296 ∧ r.add < 4294967296)
    (hY : NatAt w .u32 Yb 0 Ys) (hYn : Ys.length = nY) (hYp : 0 < nY → pY = some ⟨Yb, 0, none⟩) (hS : w.row? Sb = some (Ss.flatMap SpC).toArray) (hSn : Ss.length = nS) (hSb : ∀ r ∈ Ss, r.st < 4294967296 ∧ r.sz < 4294967296)
    (hb : bias < 4294967296) (hr : w.row? mb = some (mem f)) (hf : ∀ i, f i < 256) (rm : Rb ≠ mb) (ym : Yb ≠ mb) (sm : Sb ≠ mb) (ns : nS < 1000000) (nr : nR < 1000000) :
    Calls Try.prog 11 #[.pointer (some ⟨mb, 0, none⟩), .agg #[e, sg, .slice (some ⟨Rb, 0, none⟩) nR cR, .slice pY nY cY], .int .u32 (bias : Int), .slice (some ⟨Sb, 0, none⟩) nS cS] w (OneQ w mb (applyN bias Rs Ys Ss Rs f)) := by
  have := apply_any (w := w) (mb := mb) (v := ⟨e, sg, some ⟨Rb, 0, none⟩, Rb, 0, nR, cR, pY, Yb, 0, nY, cY, bias, some ⟨Sb, 0, none⟩, Sb, 0, nS, cS, .iface 33 (.pointer (some ⟨mb, 0, none⟩))⟩) (Rs := Rs) (Ys := Ys) (Ss := Ss) (f := f)
    (fun J w' hc hJ => ⟨hJ, (rls_row hR hRb).keep hc (by simp), hRn, fun _ => rfl, hY.keep hc (by simp), hYn, hYp, (sps_row hS hSb).keep hc (by simp), hSn, fun _ => rfl, hb⟩) rfl hr hf rm ym sm ns nr
  exact this
end Go.Proofs.L

open Go Go.RowKit Go.Lib
namespace Go.Proofs.L
attribute [local irreducible] wpT
def fitF : Nat → Nat := stN (fun _ => 0) 4096 2147487753 4
theorem fit_apply : applyN 2147487744 [⟨0, 1, 1, 1⟩] [0, 8] [⟨2147487744, 16, 0⟩] [⟨0, 1, 1, 1⟩] (fun _ => 0) = (0, fitF) := by
  have h1 : oneN 2147487744 [⟨0, 1, 1, 1⟩] [0, 8] [⟨2147487744, 16, 0⟩] (fun _ => 0) ⟨0, 1, 1, 1⟩ = (0, fitF) := rfl
  unfold applyN
  rw [h1]
  rfl
theorem fit_load : ldN fitF 2147487744 = (2147487753, 0) := by decide +kernel
set_option maxRecDepth 100000 in
set_option maxHeartbeats 16000000 in
theorem fit_any (w : World) : Calls Try.prog 8 #[] w fun e w' => e = .returned (.bool true) ∧ Chg [] w w' := by
  go_enter Try.func8, Try.ntmps8
  go_wp2_with fail
  refine (new_ok w).mono ?_
  rintro e w1 ⟨rfl, hw1⟩
  have HR : Hid (w1.row? w.heap.size = some (mem fun _ => 0)) := Lib.hid (by rw [hw1]; exact new_row w)
  have HC : Hid (Chg [] w w1) := Lib.hid (by rw [hw1]; exact (Chg.refl _ _).alloc _)
  obtain ⟨mb, hmb⟩ : ∃ b, b = w.heap.size := ⟨_, rfl⟩
  rw [← hmb] at HR ⊢
  have HMB := Lib.hid hmb
  clear hw1 hmb
  obtain ⟨Y0, hY0⟩ : ∃ b, b = w1.heap.size := ⟨_, rfl⟩
  obtain ⟨V, hV⟩ : ∃ V, V = (((w1.alloc (.cells #[.int .u32 0, .int .u32 8] 24)).alloc (.cells #[.int .u32 0, .int .i64 1, .int .i64 1, .int .u32 1] 32)).alloc (.cells #[.int .u32 0, .slice none 0 0, .slice (some ⟨Y0 + 1, 0, none⟩) 1 1, .slice (some ⟨Y0, 0, none⟩) 2 2] 30)).alloc (.cells #[.int .u32 2147487744, .int .u32 16, .int .i64 0] 52) := ⟨_, rfl⟩
  have hml := row_lt HR.out
  have hc : Chg [] w1 V := by rw [hV]; exact ((((Chg.refl _ _).alloc _).alloc _).alloc _).alloc _
  have hrY : V.row? Y0 = some #[.int .u32 0, .int .u32 8] := by rw [hV, hY0, row_alloc_past _ _ _ (by simp; omega), row_alloc_past _ _ _ (by simp; omega), row_alloc_past _ _ _ (by simp)]; exact row_alloc_at _ _ _ _ rfl
  have hrR : V.row? (Y0 + 1) = some #[.int .u32 0, .int .i64 1, .int .i64 1, .int .u32 1] := by rw [hV, hY0, row_alloc_past _ _ _ (by simp), row_alloc_past _ _ _ (by simp)]; exact row_alloc_at _ _ _ _ (by simp)
  have hrS : V.row? (Y0 + 1 + 1 + 1) = some #[.int .u32 2147487744, .int .u32 16, .int .i64 0] := by rw [hV, hY0]; exact row_alloc_at _ _ _ _ (by simp)
  have hrM : V.row? mb = some (mem fun _ => 0) := by rw [hc.row hml (by simp)]; exact HR.out
  have HCV := Lib.hid (HC.out.trans hc)
  have HAP : Hid (Calls Try.prog 11 #[.pointer (some ⟨mb, 0, none⟩), .agg #[.int .u32 0, .slice none 0 0, .slice (some ⟨Y0 + 1, 0, none⟩) 1 1, .slice (some ⟨Y0, 0, none⟩) 2 2], .int .u32 2147487744, .slice (some ⟨Y0 + 1 + 1 + 1, 0, none⟩) 1 1] V (OneQ V mb (0, fitF))) := Lib.hid (by
    rw [← fit_apply]
    exact apply_rows (bias := 2147487744) (Rs := [⟨0, 1, 1, 1⟩]) (Ys := [0, 8]) (Ss := [⟨2147487744, 16, 0⟩]) hrR rfl (by decide) (nat_row hrY (by decide)) rfl (fun _ => rfl) hrS rfl (by decide) (by decide) hrM (by intro i; decide) (by omega) (by omega) (by omega) (by decide) (by decide))
  have HV := Lib.hid hV
  have HY0 := Lib.hid hY0
  clear hV hY0 hml hc hrY hrR hrS hrM
  go_wp2_with fail
  rw [← HY0.out, ← HV.out]
  refine HAP.out.mono ?_
  rintro e w2 ⟨rfl, hr2, hc2⟩
  have HR2 := Lib.hid hr2
  have HC2 := Lib.hid hc2
  clear hr2 hc2
  go_wp2_with fail
  have HL : Hid (Calls Try.prog 13 #[.pointer (some ⟨mb, 0, none⟩), .int .u32 2147487744, .int .i64 4] w2 fun e w' => e = .returned (.tuple #[.int .u32 2147487753, .int .i64 0]) ∧ Chg [] w2 w') := Lib.hid (by
    have h := load4_any fitF (stN_lt _ (by intro i; decide) _ _ _) 2147487744 mb (by decide) w2 HR2.out
    rw [fit_load] at h
    exact h)
  refine HL.out.mono ?_
  rintro e w3 ⟨rfl, hc3⟩
  have HC3 : Hid (Chg [mb] V w3) := Lib.hid (HC2.out.trans (chg_any hc3))
  clear hc3
  go_wp2_with fail
  have HU : Hid (Calls Try.prog 18 #[.int .u32 305422335] w3 fun e w' => e = .returned (.int .u32 305422336) ∧ w' = w3) := Lib.hid (upper_any 305422335 w3)
  refine HU.out.mono ?_
  rintro e w4 ⟨rfl, hw⟩
  obtain rfl := hw.symm
  go_wp2
  go_ret
  refine ⟨rfl, ?_⟩
  have h1 := HCV.out
  have h2 := HC3.out
  exact ⟨h2.os.trans h1.os, h2.tape.trans h1.tape, h2.output.trans h1.output, Nat.le_trans h1.size h2.size, fun k hk _ => (h2.block k (Nat.lt_of_lt_of_le hk h1.size) (by rw [List.mem_singleton]; have := HMB.out; omega)).trans (h1.block k hk (by simp))⟩
end Go.Proofs.L

open Go Go.RowKit Go.Lib
namespace Go.Proofs.L
/-! plain law: what a set immediate is read as; what is stored is loaded -/
theorem leN_mod (F : Nat → Nat) (X p : Nat) : ∀ n, (∀ j, j < n → F (p + j) = X / 2 ^ (8 * j) % 256) → leN F p n = X % 2 ^ (8 * n)
  | 0, _ => by simp [leN, Nat.mod_one]
  | n + 1, h => by
    rw [leN, leN_mod F X p n (fun j hj => h j (by omega)), h n (by omega), show 8 * (n + 1) = 8 * n + 8 from by omega, Nat.pow_add, Nat.mod_mul, Nat.mul_comm (X / _ % _)]
theorem leN_same (f : Nat → Nat) (o x : Nat) (hx : x < 4294967296) : leN (stN f o x 4) o 4 = x := by
  rw [leN_mod _ x o 4 (fun j hj => by rw [stN_get, if_pos (by omega), show o + j - o = j from by omega])]
  exact Nat.mod_eq_of_lt hx
theorem leN_ext (f g : Nat → Nat) (o : Nat) : ∀ n, (∀ j, j < n → f (o + j) = g (o + j)) → leN f o n = leN g o n
  | 0, _ => rfl
  | n + 1, h => by rw [leN, leN, leN_ext f g o n (fun j hj => h j (by omega)), h n (by omega)]
theorem leN_apart (f : Nat → Nat) (o p x : Nat) (h : o + 4 ≤ p ∨ p + 4 ≤ o) : leN (stN f o x 4) p 4 = leN f p 4 :=
  leN_ext _ _ _ _ fun j hj => by rw [stN_get, if_neg (by omega)]
theorem fld (S x a b n : Nat) (h : ∀ i, i < n → S.testBit (a + i) = x.testBit (b + i)) : S / 2 ^ a % 2 ^ n = x / 2 ^ b % 2 ^ n := by
  refine Nat.eq_of_testBit_eq fun i => ?_
  rw [tb_mod, tb_mod, tb_div, tb_div]
  by_cases hi : i < n
  · rw [h i hi]
  · simp [hi]
theorem putF {pl : Nat → Option Nat} {S w x : Nat} (h : Put pl S w x) (a b n : Nat) (ha : a + n ≤ 32) (hp : ∀ i, i < n → pl (a + i) = some (b + i)) : S / 2 ^ a % 2 ^ n = x / 2 ^ b % 2 ^ n :=
  fld _ _ _ _ _ fun i hi => by rw [h (a + i) (by omega), hp i hi]; rfl
theorem putK {pl : Nat → Option Nat} {S w x : Nat} (h : Put pl S w x) (a n : Nat) (ha : a + n ≤ 32) (hp : ∀ i, i < n → pl (a + i) = none) : S / 2 ^ a % 2 ^ n = w / 2 ^ a % 2 ^ n :=
  fld _ _ _ _ _ fun i hi => by rw [h (a + i) (by omega), hp i hi]; rfl
theorem all_lt {n : Nat} {P : Nat → Prop} [DecidablePred P] (h : ∀ i : Fin n, P i) : ∀ i, i < n → P i := fun i hi => h ⟨i, hi⟩
theorem gI (w x : Nat) : setI w x / 1048576 % 4096 = x % 4096 := by
  simpa [Nat.div_one] using putF (putI w x) 20 0 12 (by decide) (by decide)
theorem kI (w x : Nat) : setI w x % 1048576 = w % 1048576 := by
  simpa [Nat.div_one] using putK (putI w x) 0 20 (by decide) (by decide)
theorem gU (w x : Nat) (hx : x < 4294967296) : setU w x / 4096 % 1048576 = x / 4096 := by
  have := putF (putU w x) 12 12 20 (by decide) (by decide)
  have h2 : x / 4096 % 1048576 = x / 4096 := Nat.mod_eq_of_lt (by omega)
  simpa [h2] using this
theorem kU (w x : Nat) : setU w x % 4096 = w % 4096 := by
  simpa [Nat.div_one] using putK (putU w x) 0 12 (by decide) (by decide)
theorem gS1 (w x : Nat) : setS w x / 33554432 % 128 = x / 32 % 128 := by
  simpa using putF (putS w x) 25 5 7 (by decide) (by decide)
theorem gS2 (w x : Nat) : setS w x / 128 % 32 = x % 32 := by
  simpa [Nat.div_one] using putF (putS w x) 7 0 5 (by decide) (by decide)
theorem gB1 (w x : Nat) : setB w x / 2147483648 % 2 = x / 4096 % 2 := by
  simpa using putF (putB w x) 31 12 1 (by decide) (by decide)
theorem gB2 (w x : Nat) : setB w x / 128 % 2 = x / 2048 % 2 := by
  simpa using putF (putB w x) 7 11 1 (by decide) (by decide)
theorem gB3 (w x : Nat) : setB w x / 33554432 % 64 = x / 32 % 64 := by
  simpa using putF (putB w x) 25 5 6 (by decide) (by decide)
theorem gB4 (w x : Nat) : setB w x / 256 % 16 = x / 2 % 16 := by
  simpa using putF (putB w x) 8 1 4 (by decide) (by decide)
theorem gJ1 (w x : Nat) : setJ w x / 2147483648 % 2 = x / 1048576 % 2 := by
  simpa using putF (putJ w x) 31 20 1 (by decide) (by decide)
theorem gJ2 (w x : Nat) : setJ w x / 4096 % 256 = x / 4096 % 256 := by
  simpa using putF (putJ w x) 12 12 8 (by decide) (by decide)
theorem gJ3 (w x : Nat) : setJ w x / 1048576 % 2 = x / 2048 % 2 := by
  simpa using putF (putJ w x) 20 11 1 (by decide) (by decide)
theorem gJ4 (w x : Nat) : setJ w x / 2097152 % 1024 = x / 2 % 1024 := by
  simpa using putF (putJ w x) 21 1 10 (by decide) (by decide)
/-- the reference's immediates of a word -/
def rI (x : Nat) : Int := sgn 12 (x / 1048576 % 4096)
def rS (x : Nat) : Int := sgn 12 ((x / 33554432 % 128) * 32 + (x / 128 % 32))
def rB (x : Nat) : Int := sgn 13 ((x / 2147483648 % 2) * 4096 + (x / 128 % 2) * 2048 + (x / 33554432 % 64) * 32 + (x / 256 % 16) * 2)
def rJ (x : Nat) : Int := sgn 21 ((x / 2147483648 % 2) * 1048576 + (x / 4096 % 256) * 4096 + (x / 1048576 % 2) * 2048 + (x / 2097152 % 1024) * 2)
def rU (x : Nat) : Int := sgn 32 (x / 4096 * 4096)
theorem rI_set (w x : Nat) : rI (setI w x) = sgn 12 (x % 4096) := by unfold rI; rw [gI]
theorem rS_set (w x : Nat) : rS (setS w x) = sgn 12 (x % 4096) := by
  unfold rS; rw [gS1, gS2]; congr 1; omega
theorem rB_set (w x : Nat) : rB (setB w x) = sgn 13 (x % 8192 - x % 2) := by
  unfold rB; rw [gB1, gB2, gB3, gB4]; congr 1; omega
theorem rJ_set (w x : Nat) : rJ (setJ w x) = sgn 21 (x % 2097152 - x % 2) := by
  unfold rJ; rw [gJ1, gJ2, gJ3, gJ4]; congr 1; omega
theorem rU_set (w x : Nat) (hx : x < 4294967296) : rU (setU w x) = sgn 32 (x / 4096 * 4096) := by
  unfold rU
  have h1 := gU w x hx
  have h2 := setU_lt w x hx
  have h3 : setU w x / 4096 * 4096 = x / 4096 * 4096 := by
    generalize setU w x = S at *
    omega
  rw [h3]
theorem sgn12 (x : Nat) : sgn 12 x = if x / 2048 = 1 then (x : Int) - 4096 else x := rfl
theorem sgn13 (x : Nat) : sgn 13 x = if x / 4096 = 1 then (x : Int) - 8192 else x := rfl
theorem sgn21 (x : Nat) : sgn 21 x = if x / 1048576 = 1 then (x : Int) - 2097152 else x := rfl
theorem sgn32 (x : Nat) : sgn 32 x = if x / 2147483648 = 1 then (x : Int) - 4294967296 else x := rfl
theorem far13_iff (v : Nat) : farN v 13 = true ↔ ¬ (v % 2 = 0 ∧ -4096 ≤ s32 v ∧ s32 v < 4096) := by
  unfold farN
  simp only [Bool.or_eq_true, decide_eq_true_eq, show ((2 : Int) ^ (13 - 1)) = 4096 from rfl]
  omega
theorem far21_iff (v : Nat) : farN v 21 = true ↔ ¬ (v % 2 = 0 ∧ -1048576 ≤ s32 v ∧ s32 v < 1048576) := by
  unfold farN
  simp only [Bool.or_eq_true, decide_eq_true_eq, show ((2 : Int) ^ (21 - 1)) = 1048576 from rfl]
  omega
theorem near13 (w v : Nat) (hv : v < 4294967296) (h : farN v 13 = false) : rB (setB w v) = s32 v := by
  have h1 : ¬ farN v 13 = true := by rw [h]; decide
  rw [far13_iff] at h1
  rw [rB_set, sgn13]
  unfold s32 at *
  split at h1 <;> split <;> omega
theorem near21 (w v : Nat) (hv : v < 4294967296) (h : farN v 21 = false) : rJ (setJ w v) = s32 v := by
  have h1 : ¬ farN v 21 = true := by rw [h]; decide
  rw [far21_iff] at h1
  rw [rJ_set, sgn21]
  unfold s32 at *
  split at h1 <;> split <;> omega
/-- the upper and the lower part -/
theorem upper_low (v w x : Nat) (hv : v < 4294967296) : ((rU (setU w (upN v)) + sgn 12 (v % 4096) - v) % 4294967296 = 0) := by
  rw [rU_set _ _ (upN_lt v), sgn32, sgn12]
  unfold upN
  split <;> split <;> omega
theorem farB (v n : Nat) : farN v n = true ∨ farN v n = false := by cases farN v n <;> simp
end Go.Proofs.L
