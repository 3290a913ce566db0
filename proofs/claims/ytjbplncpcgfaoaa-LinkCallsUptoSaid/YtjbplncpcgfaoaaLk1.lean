/- Proved here: lemmas and contracts (Lk1) for the laws of this seat, for all values of the stated types; no further condition. -/
import Derived.Test.YtjbplncpcgfaoaaProg
import Derived.StillTailTactics
import Derived.Lib.Hide
import Derived.Test.YtjbplncpcgfaoaaRow
import Derived.Test.YtjbplncpcgfaoaaMem
import Derived.Test.YtjbplncpcgfaoaaOwn2
import Derived.Test.YtjbplncpcgfaoaaPart
import Derived.Test.YtjbplncpcgfaoaaWin
import Derived.Test.YtjbplncpcgfaoaaClose
import Derived.Test.YtjbplncpcgfaoaaRegT
import Derived.Test.YtjbplncpcgfaoaaOpen
import Derived.Deep.DeepCutAuto
import Derived.Deep.CutBlock
import Derived.Stop.Joined
import Derived.OwnWalk
open Go Go.RowKit Go.Lib
namespace Go.Proofs.L
attribute [local irreducible] wpT
/-! objects: what the program has of one; the size of a section; up -/
theorem keepc {E : List Nat} {w w' : World} {a : Addr} {v : Value} (h : w.cell? a = some v) (hc : Chg E w w') (hE : a.block ∉ E) : w'.cell? a = some v := by
  unfold World.cell? at h ⊢
  rw [hc.block a.block (World.block_lt_of_cell? _ _ h) hE]
  exact h
structure Df where
  (name : ByteArray) (sec : Int) (at_ : Nat)
structure Rf where
  (sec : Int) (at_ : Nat) (ty : Int) (name : ByteArray) (add : Nat)
structure Ob where
  (pc : Option Addr) (bc oc nc cc : Nat) (C : List Nat)
  (pd : Option Addr) (bd od nd cd : Nat) (D : List Nat)
  (z : Nat)
  (pf : Option Addr) (bf of_ nf cf : Nat) (F : List Df)
  (pr : Option Addr) (br or_ nr cr : Nat) (R : List Rf)
def obA (s : Ob) : Array Value := #[.slice s.pc s.nc s.cc, .slice s.pd s.nd s.cd, .int .u32 (s.z : Int), .slice s.pf s.nf s.cf, .slice s.pr s.nr s.cr]
def DfC (d : Df) : List Value := [.string d.name, .int .i64 d.sec, .int .u32 (d.at_ : Int)]
def RfC (r : Rf) : List Value := [.int .i64 r.sec, .int .u32 (r.at_ : Int), .int .i64 r.ty, .string r.name, .int .u32 (r.add : Int)]
def U8At (w : World) (b o : Nat) (L : List Nat) : Prop := ∀ (j x : Nat), L[j]? = some x → w.cell? ⟨b, o + j, none⟩ = some (.int .u8 (x : Int)) ∧ x < 256
def DfsAt (w : World) (b o : Nat) (L : List Df) : Prop := ∀ (j : Nat) (d : Df), L[j]? = some d → (∀ i u, (DfC d)[i]? = some u → w.cell? ⟨b, o + j * 3 + i, none⟩ = some u) ∧ d.at_ < 4294967296
def RfsAt (w : World) (b o : Nat) (L : List Rf) : Prop := ∀ (j : Nat) (r : Rf), L[j]? = some r → (∀ i u, (RfC r)[i]? = some u → w.cell? ⟨b, o + j * 5 + i, none⟩ = some u) ∧ r.at_ < 4294967296 ∧ r.add < 4294967296
/-- what is known of an object -/
structure ObOk (w : World) (s : Ob) : Prop where
  z : s.z < 4294967296
  Cn : s.C.length = s.nc
  Cp : 0 < s.nc → s.pc = some ⟨s.bc, s.oc, none⟩
  Co : s.pc = none → s.nc = 0 ∧ s.cc = 0
  Ca : U8At w s.bc s.oc s.C
  Dn : s.D.length = s.nd
  Dp : 0 < s.nd → s.pd = some ⟨s.bd, s.od, none⟩
  Do : s.pd = none → s.nd = 0 ∧ s.cd = 0
  Da : U8At w s.bd s.od s.D
  Fn : s.F.length = s.nf
  Fp : 0 < s.nf → s.pf = some ⟨s.bf, s.of_, none⟩
  Fa : DfsAt w s.bf s.of_ s.F
  Rn : s.R.length = s.nr
  Rp : 0 < s.nr → s.pr = some ⟨s.br, s.or_, none⟩
  Ra : RfsAt w s.br s.or_ s.R
theorem ObOk.keep {w w' : World} {s : Ob} (h : ObOk w s) (hc : Chg [] w w') : ObOk w' s :=
  { h with
    Ca := fun j x hx => ⟨keepc (h.Ca j x hx).1 hc (by simp), (h.Ca j x hx).2⟩
    Da := fun j x hx => ⟨keepc (h.Da j x hx).1 hc (by simp), (h.Da j x hx).2⟩
    Fa := fun j d hd => ⟨fun i u hu => keepc ((h.Fa j d hd).1 i u hu) hc (by simp), (h.Fa j d hd).2⟩
    Ra := fun j d hd => ⟨fun i u hu => keepc ((h.Ra j d hd).1 i u hu) hc (by simp), (h.Ra j d hd).2⟩ }
def ObsAt (w : World) (b o : Nat) (L : List Ob) : Prop := ∀ (j : Nat) (s : Ob), L[j]? = some s → (∀ i u, (obA s).toList[i]? = some u → w.cell? ⟨b, o + j * 5 + i, none⟩ = some u) ∧ ObOk w s
theorem ObsAt.keep {w w' : World} {b o : Nat} {L : List Ob} (h : ObsAt w b o L) (hc : Chg [] w w') : ObsAt w' b o L := fun j s hj => by
  obtain ⟨h1, h2⟩ := h j s hj
  exact ⟨fun i u hu => keepc (h1 i u hu) hc (by simp), h2.keep hc⟩
/-- a section's size -/
def sizeO (s : Ob) (k : Int) : Nat := if k = 0 then s.nc else if k = 1 then s.nd else if k = 2 then s.z else 0
theorem u32id {n : Int} (h : 0 ≤ n) (h1 : n < 4294967296) : IntKind.u32.wrap n = n := by
  simp [IntKind.wrap, IntKind.bits, IntKind.signed]; omega
set_option maxRecDepth 100000 in
set_option maxHeartbeats 1600000 in
theorem size_any (s : Ob) (k : Int) (hc : s.nc < 4294967296) (hd : s.nd < 4294967296) (w : World) :
    Calls Try.prog 28 #[.agg (obA s), .int .i64 k] w fun e w' => e = .returned (.int .u32 (sizeO s k : Int)) ∧ Chg [] w w' := by
  unfold obA sizeO
  have w1 := u32id (n := s.nc) (by omega) (by omega)
  have w2 := u32id (n := s.nd) (by omega) (by omega)
  clear hc hd
  by_cases k0 : k = 0
  · subst k0
    rw [if_pos rfl]
    clear w2
    go_enter Try.func28, Try.ntmps28
    go_wp2
    go_ret
    exact ⟨rfl, (Chg.refl _ _).alloc _⟩
  · have b0 : (k == 0) = false := beq_eq_false_iff_ne.2 k0
    rw [if_neg k0]
    by_cases k1 : k = 1
    · subst k1
      rw [if_pos rfl]
      clear k0 b0 w1
      go_enter Try.func28, Try.ntmps28
      go_wp2
      go_ret
      exact ⟨rfl, (Chg.refl _ _).alloc _⟩
    · have b1 : (k == 1) = false := beq_eq_false_iff_ne.2 k1
      rw [if_neg k1]
      clear w1 w2
      by_cases k2 : k = 2
      · subst k2
        rw [if_pos rfl]
        clear k0 b0 k1 b1
        go_enter Try.func28, Try.ntmps28
        go_wp2
        go_ret
        exact ⟨rfl, (Chg.refl _ _).alloc _⟩
      · have b2 : (k == 2) = false := beq_eq_false_iff_ne.2 k2
        rw [if_neg k2]
        clear k0 k1 k2
        go_enter Try.func28, Try.ntmps28
        go_wp2
        go_ret
        exact ⟨rfl, (Chg.refl _ _).alloc _⟩
/-- to the next multiple of 16 -/
def upN (n : Nat) : Nat := (n + 15) / 16 * 16
end Go.Proofs.L
