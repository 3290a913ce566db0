/- Proved here: lemmas and contracts (Lk5c) for the laws of this seat, for all values of the stated types; no further condition. -/
import Derived.Test.YtjbplncpcgfaoaaLk5b
open Go Go.RowKit Go.Lib Go.Maps
namespace Go.Proofs.L
attribute [local irreducible] wpT
/-! what Link answers -/
def zF : Array Value := #[.int .u32 0, .slice none 0 0, .slice none 0 0, .slice none 0 0]
theorem a30 : aggT Try.prog 30 4 := aggT_of (by kernel_rfl)
def bsF (L : List Ob) : Nat → Nat
  | 0 => 256
  | 1 => upN (256 + sumO L 0 L.length)
  | _ => upN (256 + sumO L 0 L.length) + sumO L 1 L.length
def defsI (L : List Ob) (i : Nat) (s : Ob) (k : Nat) : List (ByteArray × Nat) := (s.F.take k).map fun d => (d.name, bsF L d.sec.toNat + sumO L d.sec i + d.at_)
def defsP (L : List Ob) (i : Nat) : List (ByteArray × Nat) := ((L.take i).zipIdx.map fun p => defsI L p.2 p.1 p.1.F.length).flatten
def defsL (L : List Ob) : List (ByteArray × Nat) := defsP L L.length
def refsI (L : List Ob) (P : List (ByteArray × Nat)) (i : Nat) (s : Ob) (k : Nat) : List Rl := (s.R.take k).map fun r => ⟨bsF L r.sec.toNat + sumO L r.sec i + r.at_, r.ty, numP P r.name, r.add⟩
def refsP (L : List Ob) (P : List (ByteArray × Nat)) (i : Nat) : List Rl := ((L.take i).zipIdx.map fun p => refsI L P p.2 p.1 p.1.R.length).flatten
def refsL (L : List Ob) : List Rl := refsP L (defsL L) L.length
def startB : ByteArray := ⟨#[115, 116, 97, 114, 116]⟩
def e1 (L : List Ob) : Bool := decide (L.length < 1 ∨ 16 < L.length)
def e2 (L : List Ob) : Bool := !(L.all rightB)
def e3 (L : List Ob) : Bool := decide (16384 < sumO L 0 L.length + sumO L 1 L.length + sumO L 2 L.length ∨ sumO L 0 L.length = 0)
def e4 (L : List Ob) : Bool := !(nodupB (defsL L))
def e5 (L : List Ob) : Bool := !(L.all fun s => s.R.all fun r => decide (numP (defsL L) r.name ≠ 0))
def e6 (L : List Ob) : Bool := decide (numP (defsL L) startB = 0)
def e7 (L : List Ob) : Bool := decide (64 < (defsL L).length + 1 ∨ 64 < (refsL L).length)
def errL (L : List Ob) : Nat := if e1 L then 1 else if e2 L then 1 else if e3 L then 2 else if e4 L then 11 else if e5 L then 13 else if e6 L then 13 else if e7 L then 2 else 0
/-- the file that Link returns -/
structure FileOk (w : World) (base : Nat) (L : List Ob) (v : Array Value) : Prop where
  ex : ∃ vg vr vs, v = #[.int .u32 ((((symC (defsL L))[numP (defsL L) startB]?).bind fun u => match u with | .int _ x => some x.toNat | _ => none).getD 0 : Int), vg, vr, vs] ∧
    SegsOk w base vg (bsF L) (fun s => sumO L (s : Int) L.length) (codeB L) (dataB L) ∧ w.ownsRow base 44 4 vr (refsL L).length ((refsL L).flatMap RlC) ∧ w.ownsRow base 25 1 vs ((defsL L).length + 1) (symC (defsL L))
def LinkPost (W : World) (L : List Ob) (e : Ending) (w' : World) : Prop := ∃ v, e = .returned (.tuple #[.agg v, .int .i64 (errL L : Int)]) ∧ (errL L ≠ 0 → v = zF) ∧ (errL L = 0 → FileOk w' W.heap.size L v) ∧ Chg [] W w'
theorem post_bad {W w' : World} {L : List Ob} {k : Nat} (hk : k ≠ 0) (he : errL L = k) (hc : Chg [] W w') : LinkPost W L (.returned (.tuple #[.agg zF, .int .i64 (k : Int)])) w' :=
  ⟨zF, by rw [he], fun _ => rfl, fun h => absurd (he.symm.trans h) hk, hc⟩
theorem upN_le (n : Nat) : upN n ≤ n + 15 := by unfold upN; omega
def i4 (p : Option Addr) (n c : Nat) : Value := .slice p n c

theorem zip_flat {α : Type} {L : List Ob} {i : Nat} {s : Ob} (g : Nat → Ob → List α) (h : L[i]? = some s) : ((L.take (i + 1)).zipIdx.map fun p => g p.2 p.1).flatten = ((L.take i).zipIdx.map fun p => g p.2 p.1).flatten ++ g i s := by
  have hl : i < L.length := (List.getElem?_eq_some_iff.1 h).1
  rw [List.take_add_one, h]
  simp [List.zipIdx_append, Nat.min_eq_left (Nat.le_of_lt hl)]
theorem defsP_succ {L : List Ob} {i : Nat} {s : Ob} (h : L[i]? = some s) : defsP L (i + 1) = defsP L i ++ defsI L i s s.F.length := zip_flat (fun i s => defsI L i s s.F.length) h
theorem refsP_succ {L : List Ob} {P : List (ByteArray × Nat)} {i : Nat} {s : Ob} (h : L[i]? = some s) : refsP L P (i + 1) = refsP L P i ++ refsI L P i s s.R.length := zip_flat (fun i s => refsI L P i s s.R.length) h
theorem defsI_succ {L : List Ob} {i k : Nat} {s : Ob} {d : Df} (h : s.F[k]? = some d) : defsI L i s (k + 1) = defsI L i s k ++ [(d.name, bsF L d.sec.toNat + sumO L d.sec i + d.at_)] := by
  unfold defsI; rw [List.take_add_one, h]; simp
theorem refsI_succ {L : List Ob} {P : List (ByteArray × Nat)} {i k : Nat} {s : Ob} {r : Rf} (h : s.R[k]? = some r) : refsI L P i s (k + 1) = refsI L P i s k ++ [⟨bsF L r.sec.toNat + sumO L r.sec i + r.at_, r.ty, numP P r.name, r.add⟩] := by
  unfold refsI; rw [List.take_add_one, h]; simp
theorem defsP_zero (L : List Ob) : defsP L 0 = [] := by unfold defsP; simp
theorem refsP_zero (L : List Ob) (P : List (ByteArray × Nat)) : refsP L P 0 = [] := by unfold refsP; simp
theorem defsI_zero (L : List Ob) (i : Nat) (s : Ob) : defsI L i s 0 = [] := by unfold defsI; simp
theorem refsI_zero (L : List Ob) (P : List (ByteArray × Nat)) (i : Nat) (s : Ob) : refsI L P i s 0 = [] := by unfold refsI; simp
theorem defsP_pre (L : List Ob) (i : Nat) : defsP L i <+: defsL L := by
  unfold defsL
  by_cases h : L.length ≤ i
  · have e : defsP L i = defsP L L.length := by unfold defsP; rw [List.take_of_length_le h, List.take_of_length_le (Nat.le_refl _)]
    rw [e]
    exact List.prefix_refl _
  · have key : ∀ k, i + k ≤ L.length → defsP L i <+: defsP L (i + k) := by
      intro k
      induction k with
      | zero => intro _; exact List.prefix_refl _
      | succ k ih =>
        intro hk
        rw [← Nat.add_assoc, defsP_succ (List.getElem?_eq_getElem (show i + k < L.length by omega))]
        exact (ih (by omega)).trans (List.prefix_append _ _)
    have := key (L.length - i) (by omega)
    rwa [show i + (L.length - i) = L.length by omega] at this
theorem defsI_pre (L : List Ob) (i : Nat) (s : Ob) (k : Nat) : defsI L i s k <+: defsI L i s s.F.length := by
  unfold defsI
  rw [List.take_of_length_le (Nat.le_refl s.F.length)]
  rw [List.map_take]
  exact List.take_prefix _ _
theorem nodup_pre {P Q : List (ByteArray × Nat)} (h : P <+: Q) (hQ : nodupB Q = true) : nodupB P = true := by
  unfold nodupB at *
  rw [decide_eq_true_eq] at *
  obtain ⟨t, rfl⟩ := h
  rw [List.map_append] at hQ
  exact (List.nodup_append.1 hQ).1
/-- a name that stands already -/
theorem twice {L : List Ob} {i k : Nat} {s : Ob} {d : Df} (hs : L[i]? = some s) (hd : s.F[k]? = some d) (hn : numP (defsP L i ++ defsI L i s k) d.name ≠ 0) : e4 L = true := by
  unfold e4
  cases h : nodupB (defsL L) with
  | false => rfl
  | true =>
    exfalso
    have h1 : defsP L i ++ defsI L i s (k + 1) <+: defsL L := by
      refine List.IsPrefix.trans ?_ (defsP_pre L (i + 1))
      rw [defsP_succ hs]
      exact List.prefix_append_right_inj _ |>.2 (defsI_pre L i s (k + 1))
    have h2 := nodup_pre h1 h
    rw [defsI_succ hd, ← List.append_assoc] at h2
    unfold nodupB at h2
    rw [decide_eq_true_eq] at h2
    exact hn ((nodup_app _ _ _).1 h2).2
theorem once {P : List (ByteArray × Nat)} {t : ByteArray} {x : Nat} (h : nodupB P = true) (hn : numP P t = 0) : nodupB (P ++ [(t, x)]) = true := by
  unfold nodupB at *
  rw [decide_eq_true_eq] at *
  exact (nodup_app _ _ _).2 ⟨h, hn⟩
theorem bsF_le {L : List Ob} (h : ∀ (k : Int) i, i ≤ 16 → sumO L k i ≤ 262144) (hn : L.length ≤ 16) (q : Nat) : bsF L q ≤ 600000 := by
  have h0 := h 0 _ hn
  have h1 := h 1 _ hn
  have h2 := upN_le (256 + sumO L 0 L.length)
  match q with
  | 0 => simp [bsF]
  | 1 => simp only [bsF]; omega
  | q + 2 => simp only [bsF]; omega
end Go.Proofs.L
