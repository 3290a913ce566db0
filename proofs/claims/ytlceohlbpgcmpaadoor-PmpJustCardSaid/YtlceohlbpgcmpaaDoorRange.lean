/- Proved here: lemmas and contracts (Range) for the laws of this seat, for all values of the stated types; no further condition. -/
import Derived.Test.YtlceohlbpgcmpaaDoorBits
open Go Go.RowKit Go.Lib
namespace Go.Proofs.L
attribute [local irreducible] wpT
/-- an entry -/
structure Ent where
  way : Int
  rights : Int
  addr : Nat
  deriving DecidableEq, Inhabited
def Ent.L (e : Ent) : List Value := [.int .i64 e.way, .int .i64 e.rights, .int .u32 (e.addr : Int)]
structure EntAt (w : World) (b o : Nat) (e : Ent) : Prop where
  c0 : w.cell? ⟨b, o, none⟩ = some (.int .i64 e.way)
  c1 : w.cell? ⟨b, o + 1, none⟩ = some (.int .i64 e.rights)
  c2 : w.cell? ⟨b, o + 2, none⟩ = some (.int .u32 (e.addr : Int))
  lt : e.addr < 4294967296
def EntsAt (w : World) (b o : Nat) (L : List Ent) : Prop := ∀ j e, L[j]? = some e → EntAt w b (o + j * 3) e
def sizeN (a : Nat) : Nat := 2 ^ (3 + Lib.ctz 32 (4294967295 - a))
def rangeN (L : List Ent) (i : Nat) : Nat × Nat :=
  match L[i]? with
  | none => (0, 0)
  | some e =>
    if e.way = 1 then ((if i = 0 then 0 else (L.getD (i - 1) default).addr * 4), max (if i = 0 then 0 else (L.getD (i - 1) default).addr * 4) (e.addr * 4))
    else if e.way = 2 then (e.addr * 4, e.addr * 4 + 4)
    else if e.way = 3 then (e.addr * 4 / sizeN e.addr * sizeN e.addr, e.addr * 4 / sizeN e.addr * sizeN e.addr + sizeN e.addr)
    else (0, 0)
theorem xor_max (a : Nat) (h : a < 4294967296) : bits .xor .u32 IntKind.u32.max (a : Int) = ((4294967295 - a : Nat) : Int) := by
  show IntKind.u32.wrap ((BitVec.ofInt 32 4294967295 ^^^ BitVec.ofInt 32 (a : Int)).toNat : Int) = _
  rw [show BitVec.ofInt 32 4294967295 = BitVec.allOnes 32 by decide, BitVec.allOnes_xor, BitVec.toNat_not, BitVec.ofInt_natCast, BitVec.toNat_ofNat, Nat.mod_eq_of_lt (show a < 2 ^ 32 from h), u32w]
  omega
theorem nat_andnot (x k : Nat) (hx : x < 2 ^ 64) (hk : k < 64) : x &&& (2 ^ 64 - 1 - (2 ^ k - 1)) = x / 2 ^ k * 2 ^ k := by
  apply Nat.eq_of_testBit_eq
  intro i
  have hp : 2 ^ k - 1 < 2 ^ 64 := by
    have : 2 ^ k ≤ 2 ^ 64 := Nat.pow_le_pow_right (by decide) (by omega)
    have : 0 < 2 ^ k := Nat.two_pow_pos _
    omega
  have e1 : 2 ^ 64 - 1 - (2 ^ k - 1) = 2 ^ 64 - ((2 ^ k - 1) + 1) := by omega
  rw [Nat.testBit_and, e1, Nat.testBit_two_pow_sub_succ hp, Nat.testBit_two_pow_sub_one, Nat.testBit_mul_two_pow, Nat.testBit_div_two_pow]
  by_cases h1 : k ≤ i
  · by_cases h2 : i < 64
    · simp [h1, h2, show ¬ i < k by omega, show i - k + k = i by omega]
    · have : x.testBit i = false := Nat.testBit_lt_two_pow (Nat.lt_of_lt_of_le hx (Nat.pow_le_pow_right (by decide) (by omega)))
      simp [h1, h2, this, show i - k + k = i by omega]
  · simp [h1, show i < k by omega]
theorem andNot_low (x k s : Nat) (hs : s = 2 ^ k) (hx : x < 18446744073709551616) (hk : k < 64) : bits .andNot .u64 (x : Int) ((s : Int) - 1) = ((x / s * s : Nat) : Int) := by
  have hp : 0 < 2 ^ k := Nat.two_pow_pos _
  have hp2 : 2 ^ k ≤ 2 ^ 63 := Nat.pow_le_pow_right (by decide) (by omega)
  have e : ((s : Int) - 1) = ((2 ^ k - 1 : Nat) : Int) := by rw [hs]; omega
  rw [e]
  show IntKind.u64.wrap ((BitVec.ofInt 64 (x : Int) &&& ~~~ (BitVec.ofInt 64 ((2 ^ k - 1 : Nat) : Int))).toNat : Int) = _
  rw [BitVec.toNat_and, BitVec.toNat_not, BitVec.ofInt_natCast, BitVec.ofInt_natCast, BitVec.toNat_ofNat, BitVec.toNat_ofNat, Nat.mod_eq_of_lt (show x < 2 ^ 64 from hx), Nat.mod_eq_of_lt (show 2 ^ k - 1 < 2 ^ 64 by omega), nat_andnot x k hx hk, u64w, ← hs]
  have := Nat.div_mul_le_self x s
  omega
theorem size_lt (a : Nat) (h : a < 4294967296) : sizeN a ≤ 34359738368 ∧ 8 ≤ sizeN a := by
  unfold sizeN
  have h1 : Lib.ctz 32 (4294967295 - a) ≤ 32 := by
    by_cases h0 : 4294967295 - a = 0
    · unfold Lib.ctz; rw [if_pos h0]; omega
    · have := (Lib.lowest_bit 32 (4294967295 - a) h0 (by omega)).2; omega
  constructor
  · exact Nat.le_trans (Nat.pow_le_pow_right (by decide) (show 3 + Lib.ctz 32 (4294967295 - a) ≤ 35 by omega)) (by decide)
  · exact Nat.le_trans (by decide : 8 ≤ 2 ^ 3) (Nat.pow_le_pow_right (by decide) (by omega))
set_option maxRecDepth 100000 in
theorem range_any {w : World} {b o n c : Nat} {L : List Ent} (hE : EntsAt w b o L) (hn : L.length = n) (i : Nat) (hi : i < n) (hn6 : n < 1000000) (hL : LaidOk w) :
    Calls Tryd.prog 21 #[.slice (some ⟨b, o, none⟩) n c, .int .i64 (i : Int)] w fun e w' => e = .returned (.tuple #[.int .u64 ((rangeN L i).1 : Int), .int .u64 ((rangeN L i).2 : Int)]) ∧ w' = w := by
  obtain ⟨⟨way, rt, a⟩, he⟩ : ∃ e, L[i]? = some e := ⟨_, List.getElem?_eq_getElem (by omega)⟩
  obtain ⟨h0, h1, h2, hlt⟩ := hE i _ he
  simp only [] at h0 h1 h2 hlt
  have hr : rangeN L i = (if way = 1 then ((if i = 0 then 0 else (L.getD (i - 1) default).addr * 4), max (if i = 0 then 0 else (L.getD (i - 1) default).addr * 4) (a * 4))
    else if way = 2 then (a * 4, a * 4 + 4)
    else if way = 3 then (a * 4 / sizeN a * sizeN a, a * 4 / sizeN a * sizeN a + sizeN a)
    else (0, 0)) := by unfold rangeN; rw [he]
  rw [hr]
  have i0 : decide ((i : Int) < 0) = false := by simp
  have i1 : decide ((n : Int) ≤ (i : Int)) = false := by simp; omega
  have i2 : (i : Int) < (n : Int) := by omega
  have wa : IntKind.u64.wrap (a : Int) = (a : Int) := by rw [u64w]; omega
  have m0 : IntKind.u64.wrap ((a : Int) * 4) = ((a * 4 : Nat) : Int) := by rw [u64w]; omega
  by_cases w1 : way = 1
  · subst w1
    by_cases hi0 : i = 0
    · subst hi0
      have hm : max (0 : Int) ((a * 4 : Nat) : Int) = ((a * 4 : Nat) : Int) := by omega
      obtain ⟨a4, ha4⟩ : ∃ a4, a4 = a * 4 := ⟨_, rfl⟩
      rw [← ha4] at m0 hm
      simp only [if_true, Nat.zero_max, ← ha4]
      rw [Nat.zero_mul, Nat.add_zero] at h0 h1 h2
      clear hr he hE hL hlt ha4 hm
      by_cases hz : a4 = 0
      · subst hz
        go_enter Tryd.func21, Tryd.ntmps21
        go_wp2
        go_ret2
        exact ⟨rfl, rfl⟩
      · have d : decide ((0 : Int) < (a4 : Int)) = true := by rw [decide_eq_true_eq]; omega
        have d2 : (0 : Int) < (a4 : Int) := by omega
        clear hz
        go_enter Tryd.func21, Tryd.ntmps21
        go_wp2
        go_ret2
        exact ⟨rfl, rfl⟩
    · obtain ⟨⟨pw, pr, pa⟩, hp⟩ : ∃ e, L[i - 1]? = some e := ⟨_, List.getElem?_eq_getElem (by omega)⟩
      obtain ⟨_, _, p2, plt⟩ := hE (i - 1) _ hp
      simp only [] at p2 plt
      have hd : L.getD (i - 1) default = ⟨pw, pr, pa⟩ := by rw [List.getD_eq_getElem?_getD, hp]; rfl
      have wp : IntKind.u64.wrap (pa : Int) = (pa : Int) := by rw [u64w]; omega
      have mp : IntKind.u64.wrap ((pa : Int) * 4) = ((pa * 4 : Nat) : Int) := by rw [u64w]; omega
      simp only [if_true, if_neg hi0, hd]
      have q1 : decide ((0 : Int) < (i : Int)) = true := by rw [decide_eq_true_eq]; omega
      have q2 : (0 : Int) < (i : Int) := by omega
      have q3 : wrap64 ((i : Int) - 1) = ((i - 1 : Nat) : Int) := by rw [IntWalk.wrap64_in _ ⟨by omega, by omega⟩]; omega
      have q4 : ((i - 1 : Nat) : Int) < (n : Int) := by omega
      obtain ⟨j, hj⟩ : ∃ j, j = i - 1 := ⟨_, rfl⟩
      have p2' := p2
      have q5 : (i : Int) - 1 < (n : Int) := by omega
      have q6 : (0 : Int) ≤ (i : Int) - 1 := by omega
      rw [← hj] at q3 q4 p2
      obtain ⟨a4, ha4⟩ : ∃ a4, a4 = a * 4 := ⟨_, rfl⟩
      obtain ⟨p4, hp4⟩ : ∃ p4, p4 = pa * 4 := ⟨_, rfl⟩
      rw [← ha4] at m0
      rw [← hp4] at mp
      simp only [← ha4, ← hp4]
      clear hr he hE hL hlt ha4 hp4 hd hp plt hi0 hj
      by_cases hle : p4 < a4
      · have d : decide ((p4 : Int) < (a4 : Int)) = true := by rw [decide_eq_true_eq]; omega
        have d2 : (p4 : Int) < (a4 : Int) := by omega
        rw [show max p4 a4 = a4 by omega]
        clear hle
        go_enter Tryd.func21, Tryd.ntmps21
        go_wp2
        go_ret2
        exact ⟨rfl, rfl⟩
      · have d : decide ((p4 : Int) < (a4 : Int)) = false := by rw [decide_eq_false_iff_not]; omega
        have d2 : (a4 : Int) ≤ (p4 : Int) := by omega
        rw [show max p4 a4 = p4 by omega]
        clear hle
        go_enter Tryd.func21, Tryd.ntmps21
        go_wp2
        go_ret2
        exact ⟨rfl, rfl⟩
  by_cases w2 : way = 2
  · subst w2
    have s4 : IntKind.u64.wrap (((a * 4 : Nat) : Int) + 4) = ((a * 4 + 4 : Nat) : Int) := by rw [u64w]; omega
    simp only [if_true, if_neg w1]
    obtain ⟨b4, hb4⟩ : ∃ y, y = a * 4 + 4 := ⟨_, rfl⟩
    rw [← hb4] at s4 ⊢
    obtain ⟨a4, ha4⟩ : ∃ a4, a4 = a * 4 := ⟨_, rfl⟩
    rw [← ha4] at m0 s4 ⊢
    clear hr he hE hL hlt ha4 hb4 w1
    go_enter Tryd.func21, Tryd.ntmps21
    go_wp2
    go_ret2
    exact ⟨rfl, rfl⟩
  by_cases w3 : way = 3
  · subst w3
    have HT := Lib.hid (tz_any (4294967295 - a) (by omega) w hL)
    obtain ⟨l1, l2⟩ := size_lt a hlt
    simp only [if_true, if_neg w1, if_neg w2]
    obtain ⟨x, hx⟩ : ∃ x, x = 4294967295 - a := ⟨_, rfl⟩
    obtain ⟨k, hk⟩ : ∃ k, k = Lib.ctz 32 x := ⟨_, rfl⟩
    have hxo := xor_max a hlt
    rw [← hx, ← hk] at HT
    rw [← hx] at hxo
    have hk32 : k ≤ 32 := by
      by_cases hz : x = 0
      · rw [hk, hz]; decide
      · have := (Lib.lowest_bit 32 x hz (by omega)).2; omega
    have hsz : sizeN a = 2 ^ (3 + k) := by unfold sizeN; rw [← hx, ← hk]
    obtain ⟨s, hs⟩ : ∃ s, s = sizeN a := ⟨_, rfl⟩
    rw [← hs] at hsz l1 l2 ⊢
    have f1 : IntKind.u64.wrap (8 * 2 ^ min k 64 : Int) = (s : Int) := by
      rw [show min k 64 = k by omega, u64w, show (8 * 2 ^ k : Int) = ((2 ^ (3 + k) : Nat) : Int) by rw [Nat.pow_add]; push_cast; rfl, ← hsz]; omega
    have f2 : IntKind.u64.wrap ((s : Int) - 1) = (s : Int) - 1 := by rw [u64w]; omega
    have f3 : bits .andNot .u64 ((a * 4 : Nat) : Int) ((s : Int) - 1) = ((a * 4 / s * s : Nat) : Int) := andNot_low (a * 4) (3 + k) s hsz (by omega) (by omega)
    have f5 : a * 4 / s * s ≤ a * 4 := Nat.div_mul_le_self _ _
    obtain ⟨z, hz⟩ : ∃ z, z = a * 4 / s * s := ⟨_, rfl⟩
    rw [← hz] at f3 f5 ⊢
    have f4 : IntKind.u64.wrap ((z : Int) + (s : Int)) = ((z + s : Nat) : Int) := by rw [u64w]; omega
    obtain ⟨a4, ha4⟩ : ∃ a4, a4 = a * 4 := ⟨_, rfl⟩
    rw [← ha4] at m0 f3
    have HX := Lib.hid hx
    have HK := Lib.hid hk
    have wk : wrap64 (k : Int) = (k : Int) := IntWalk.wrap64_in _ ⟨by omega, by omega⟩
    clear hr he hE hL w1 w2 hlt hx hk hk32 hsz hs l1 l2 f5 hz ha4
    go_enter Tryd.func21, Tryd.ntmps21
    go_wp2_with fail
    refine HT.out.mono ?_
    rintro e w' ⟨rfl, rfl⟩
    go_wp2
    go_ret2
    exact ⟨rfl, rfl⟩
  · simp only [if_neg w1, if_neg w2, if_neg w3]
    have n1 : (way == 1) = false := by simpa using w1
    have n2 : (way == 2) = false := by simpa using w2
    have n3 : (way == 3) = false := by simpa using w3
    clear hr he hE hL hlt
    go_enter Tryd.func21, Tryd.ntmps21
    go_wp2
    go_ret2
    exact ⟨rfl, rfl⟩
end Go.Proofs.L
