/- Proved here: lemmas and contracts (R19a) for the laws of this seat, for all values of the stated types; no further condition. -/
import Derived.Test.YtjiiojbenbldlaaR18
open Go Go.RowKit Go.Lib
namespace Go.Proofs.L
/-! a job whose lists lie in rows of their own -/
theorem flat_get {α : Type} (c : Nat) (F : α → List Value) (hF : ∀ x, (F x).length = c) : ∀ (L : List α) (j : Nat) (x : α) (i : Nat) (u : Value), L[j]? = some x → (F x)[i]? = some u → (L.flatMap F)[j * c + i]? = some u
  | [], j, x, i, u, h, _ => by simp at h
  | a :: L, 0, x, i, u, h, hu => by
    obtain rfl := Option.some.inj h
    have hi : i < (F a).length := (List.getElem?_eq_some_iff.1 hu).1
    rw [List.flatMap_cons, Nat.zero_mul, Nat.zero_add, List.getElem?_append_left hi]
    exact hu
  | a :: L, j + 1, x, i, u, h, hu => by
    have h' : L[j]? = some x := h
    rw [List.flatMap_cons, List.getElem?_append_right (by rw [hF, Nat.add_mul]; omega), hF, show (j + 1) * c + i - c = j * c + i by rw [Nat.add_mul]; omega]
    exact flat_get c F hF L j x i u h' hu
theorem rls_row {w : World} {b : Nat} {L : List Rl} (h : w.row? b = some (L.flatMap RlC).toArray) (hb : ∀ r ∈ L, r.at_ < 4294967296 ∧ r.add < 4294967296) : RlsAt w b 0 L := fun j r hj => by
  refine ⟨fun i u hu => ?_, hb r (List.mem_of_getElem? hj)⟩
  rw [Nat.zero_add, row_cell h]
  simpa using flat_get 4 RlC (fun _ => rfl) L j r i u hj hu
theorem sps_row {w : World} {b : Nat} {L : List Sp} (h : w.row? b = some (L.flatMap SpC).toArray) (hb : ∀ r ∈ L, r.st < 4294967296 ∧ r.sz < 4294967296) : SpsAt w b 0 L := fun j r hj => by
  refine ⟨fun i u hu => ?_, hb r (List.mem_of_getElem? hj)⟩
  rw [Nat.zero_add, row_cell h]
  simpa using flat_get 3 SpC (fun _ => rfl) L j r i u hj hu
theorem nat_row {w : World} {b : Nat} {k : IntKind} {L : List Nat} (h : w.row? b = some (L.map fun x : Nat => Value.int k (x : Int)).toArray) (hb : ∀ x ∈ L, x < 4294967296) : NatAt w k b 0 L := fun j x hj => by
  refine ⟨?_, hb x (List.mem_of_getElem? hj)⟩
  rw [Nat.zero_add, row_cell h]
  simp [hj]
/-- Apply over lists in rows of their own -/
theorem apply_rows {w : World} {mb Rb Yb Sb bias nR nY nS cR cY cS : Nat} {pY : Option Addr} {e sg : Value} {Rs : List Rl} {Ys : List Nat} {Ss : List Sp} {f : Nat → Nat} (hR : w.row? Rb = some (Rs.flatMap RlC).toArray) (hRn : Rs.length = nR) (hRb : ∀ r ∈ Rs, r.at_ < 4294967296 ∧ r.add < 4294967296)
    (hY : NatAt w .u32 Yb 0 Ys) (hYn : Ys.length = nY) (hYp : 0 < nY → pY = some ⟨Yb, 0, none⟩) (hS : w.row? Sb = some (Ss.flatMap SpC).toArray) (hSn : Ss.length = nS) (hSb : ∀ r ∈ Ss, r.st < 4294967296 ∧ r.sz < 4294967296)
    (hb : bias < 4294967296) (hr : w.row? mb = some (mem f)) (hf : ∀ i, f i < 256) (rm : Rb ≠ mb) (ym : Yb ≠ mb) (sm : Sb ≠ mb) (ns : nS < 1000000) (nr : nR < 1000000) :
    Calls Try.prog 11 #[.pointer (some ⟨mb, 0, none⟩), .agg #[e, sg, .slice (some ⟨Rb, 0, none⟩) nR cR, .slice pY nY cY], .int .u32 (bias : Int), .slice (some ⟨Sb, 0, none⟩) nS cS] w (OneQ w mb (applyN bias Rs Ys Ss Rs f)) := by
  have := apply_any (w := w) (mb := mb) (v := ⟨e, sg, some ⟨Rb, 0, none⟩, Rb, 0, nR, cR, pY, Yb, 0, nY, cY, bias, some ⟨Sb, 0, none⟩, Sb, 0, nS, cS, .iface 33 (.pointer (some ⟨mb, 0, none⟩))⟩) (Rs := Rs) (Ys := Ys) (Ss := Ss) (f := f)
    (fun J w' hc hJ => ⟨hJ, (rls_row hR hRb).keep hc (by simp), hRn, fun _ => rfl, hY.keep hc (by simp), hYn, hYp, (sps_row hS hSb).keep hc (by simp), hSn, fun _ => rfl, hb⟩) rfl hr hf rm ym sm ns nr
  exact this
end Go.Proofs.L
