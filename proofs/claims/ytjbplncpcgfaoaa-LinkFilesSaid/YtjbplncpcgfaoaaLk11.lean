/- Proved here: lemmas and contracts (Lk11) for the laws of this seat, for all values of the stated types; no further condition. -/
import Derived.Test.YtjbplncpcgfaoaaLk9
open Go Go.RowKit Go.Lib Go.Maps
namespace Go.Proofs.L
attribute [local irreducible] wpT
/-! the reference's objects: size, find -/
structure Rb where
  (pf : Option Addr) (bf cf : Nat) (pr : Option Addr) (br cr : Nat)
def roA (s : Ob) (t : Rb) : Array Value := #[.slice s.pc s.nc s.cc, .slice s.pd s.nd s.cd, .int .i64 (s.z : Int), .slice t.pf s.nf t.cf, .slice t.pr s.nr t.cr]
def DrC (d : Df) : List Value := [.string d.name, .int .i64 d.sec, .int .i64 (d.at_ : Int)]
def RrC (r : Rf) : List Value := [.int .i64 r.sec, .int .i64 (r.at_ : Int), .int .i64 r.ty, .string r.name, .int .i64 (r.add : Int)]
structure RbOk (w : World) (s : Ob) (t : Rb) : Prop where
  Fp : 0 < s.nf → t.pf = some ⟨t.bf, 0, none⟩
  Fa : ∀ (j : Nat) (d : Df), s.F[j]? = some d → ∀ i u, (DrC d)[i]? = some u → w.cell? ⟨t.bf, j * 3 + i, none⟩ = some u
  Rp : 0 < s.nr → t.pr = some ⟨t.br, 0, none⟩
  Ra : ∀ (j : Nat) (r : Rf), s.R[j]? = some r → ∀ i u, (RrC r)[i]? = some u → w.cell? ⟨t.br, j * 5 + i, none⟩ = some u
def sizeR (s : Ob) (k : Int) : Nat := if k = 0 then s.nc else if k = 1 then s.nd else s.z
theorem sizeR_eq (s : Ob) (k : Int) (h0 : 0 ≤ k) (h2 : k ≤ 2) : sizeR s k = sizeO s k := by
  unfold sizeR sizeO
  by_cases a : k = 0
  · rw [if_pos a, if_pos a]
  · rw [if_neg a, if_neg a]
    by_cases b : k = 1
    · rw [if_pos b, if_pos b]
    · rw [if_neg b, if_neg b, if_pos (by omega)]
set_option maxRecDepth 100000 in
set_option maxHeartbeats 1600000 in
theorem rsize_any (s : Ob) (t : Rb) (k : Int) (w : World) :
    Calls Try.prog 29 #[.agg (roA s t), .int .i64 k] w fun e w' => e = .returned (.int .i64 (sizeR s k : Int)) ∧ Chg [] w w' := by
  unfold roA sizeR
  by_cases k0 : k = 0
  · subst k0
    rw [if_pos rfl]
    go_enter Try.func29, Try.ntmps29
    go_wp2
    go_ret
    exact ⟨rfl, (Chg.refl _ _).alloc _⟩
  · have b0 : (k == 0) = false := beq_eq_false_iff_ne.2 k0
    rw [if_neg k0]
    by_cases k1 : k = 1
    · subst k1
      rw [if_pos rfl]
      clear k0 b0
      go_enter Try.func29, Try.ntmps29
      go_wp2
      go_ret
      exact ⟨rfl, (Chg.refl _ _).alloc _⟩
    · have b1 : (k == 1) = false := beq_eq_false_iff_ne.2 k1
      rw [if_neg k1]
      clear k0 k1
      go_enter Try.func29, Try.ntmps29
      go_wp2
      go_ret
      exact ⟨rfl, (Chg.refl _ _).alloc _⟩
/-! find -/
def nmsC (P : List (ByteArray × Nat)) : List ByteArray := ⟨#[]⟩ :: P.map (·.1)
theorem numP_hit {s : ByteArray} : ∀ {P : List (ByteArray × Nat)} {k x : Nat}, P[k]? = some (s, x) → numP (P.take k) s = 0 → numP P s = k + 1
  | [], k, x, h, _ => by simp at h
  | (t, y) :: P, 0, x, h, _ => by
    have h1 := Option.some.inj h
    injection h1 with h1 h2
    simp [numP, h1]
  | (t, y) :: P, k + 1, x, h, h0 => by
    simp only [List.take_succ_cons, numP] at h0
    by_cases e : t = s
    · rw [if_pos e] at h0; omega
    · rw [if_neg e] at h0
      have h1 : numP (P.take k) s = 0 := by
        by_cases h2 : numP (P.take k) s = 0
        · exact h2
        · rw [if_neg h2] at h0; omega
      have h3 := numP_hit (P := P) (k := k) (x := x) (by simpa using h) h1
      simp only [numP, if_neg e, h3]
      rw [if_neg (by omega)]
theorem numP_miss {s : ByteArray} {P : List (ByteArray × Nat)} {k : Nat} {t : ByteArray} {x : Nat} (h : P[k]? = some (t, x)) (h0 : numP (P.take k) s = 0) (hn : t ≠ s) : numP (P.take (k + 1)) s = 0 := by
  rw [List.take_add_one, h]
  show numP (P.take k ++ [(t, x)]) s = 0
  rw [numP_app, if_pos h0, if_neg hn]
theorem str_eq {a b : ByteArray} (h : a ≠ b) : (a.toList == b.toList) = false := by
  rw [beq_eq_false_iff_ne]
  intro e
  rw [ByteArray.toList_eq, ByteArray.toList_eq] at e
  apply h
  obtain ⟨⟨a⟩⟩ := a
  obtain ⟨⟨b⟩⟩ := b
  simp only at e
  rw [e]
set_option maxRecDepth 100000 in
set_option maxHeartbeats 1600000 in
theorem find_any {w : World} {b cap : Nat} {P : List (ByteArray × Nat)} (s : ByteArray) (hc : ∀ (j : Nat) (t : ByteArray), (nmsC P)[j]? = some t → w.cell? ⟨b, j, none⟩ = some (.string t)) (hn : P.length < 100000) :
    Calls Try.prog 22 #[.slice (some ⟨b, 0, none⟩) (P.length + 1) cap, .string s] w fun e w' => e = .returned (.int .i64 (numP P s : Int)) ∧ w' = w := by
  have HC := Lib.hid hc
  have HN := Lib.hid hn
  obtain ⟨n, hn2⟩ : ∃ n, n = P.length + 1 := ⟨_, rfl⟩
  have HNN := Lib.hid hn2
  rw [← hn2]
  clear hc hn hn2
  go_enter Try.func22, Try.ntmps22
  go_wp2_with fail
  go_loopw [5] (fun i wr => ∃ k : Nat, k ≤ P.length ∧ i = .int .i64 ((k + 1 : Nat) : Int) ∧ numP (P.take k) s = 0 ∧ wr = w) (fun i _ => n - (intOf i).toNat)
  case atStart => exact ⟨0, Nat.zero_le _, rfl, rfl, rfl⟩
  case round =>
    obtain ⟨k, hk, rfl, h0, hw⟩ := hrel
    obtain rfl := hw.symm
    have HK := Lib.hid hk
    have H0 := Lib.hid h0
    obtain ⟨k1, hk1⟩ : ∃ k1, k1 = k + 1 := ⟨_, rfl⟩
    rw [← hk1]
    have HK1 := Lib.hid hk1
    clear hk h0 hw hk1
    by_cases hkn : k < P.length
    · have HKN := Lib.hid hkn
      have dI : (k1 : Int) < (n : Int) := by have := HNN.out; have := HK1.out; omega
      have dN : k1 < n := by have := HNN.out; have := HK1.out; omega
      obtain ⟨⟨t, x⟩, hx⟩ : ∃ e, P[k]? = some e := ⟨_, List.getElem?_eq_getElem hkn⟩
      have HX := Lib.hid hx
      have hcell : w.cell? ⟨b, k1, none⟩ = some (.string t) := HC.out k1 t (by rw [HK1.out]; unfold nmsC; simp [hx])
      have HW : Hid (wrap64 ((k1 : Int) + 1) = ((k1 + 1 : Nat) : Int)) := Lib.hid (wrap1 k1 (by have := HN.out; have := HK1.out; omega))
      clear hx hkn
      by_cases he : t = s
      · subst he
        go_wp2
        go_ret
        refine ⟨?_, rfl⟩
        rw [numP_hit HX.out H0.out, ← HK1.out]
        rfl
      · have ht := str_eq he
        have HE := Lib.hid he
        clear he
        go_wp2
        case roundEnd => exact ⟨⟨k + 1, HKN.out, by rw [HW.out, HK1.out], numP_miss HX.out H0.out HE.out, trivial⟩, by rw [HW.out]; simp only [intOf, Int.toNat_natCast]; have := HNN.out; have := HK1.out; have := HKN.out; omega⟩
    · have dI : ¬ (k1 : Int) < (n : Int) := by have := HNN.out; have := HK1.out; omega
      have HE : Hid (numP P s = 0) := Lib.hid (by
        have h := H0.out
        rwa [List.take_of_length_le (by omega)] at h)
      clear hkn
      go_wp2
      go_ret
      exact ⟨by rw [HE.out]; rfl, rfl⟩
end Go.Proofs.L
