/- Proved here: lemmas and contracts (R14d) for the laws of this seat, for all values of the stated types; no further condition. -/
import Derived.Test.YtjiiojbenbldlaaR13
open Go Go.RowKit Go.Lib
namespace Go.Proofs.L
attribute [local irreducible] wpT
def finN (f : Nat → Nat) (p x : Nat) : Nat × (Nat → Nat) := ((sdN f p x).2, (sdN f p x).1)
def tailN (bias : Nat) (Rs : List Rl) (Ys : List Nat) (f : Nat → Nat) (p : Nat) (ty : Int) (val w add : Nat) : Nat × (Nat → Nat) :=
  if ty = 3 then finN f p ((bias + add) % 4294967296)
  else if ty = 1 then finN f p val
  else if ty = 16 then (if farN (subw val p) 13 then (14, f) else finN f p (setB w (subw val p)))
  else if ty = 17 then (if farN (subw val p) 21 then (14, f) else finN f p (setJ w (subw val p)))
  else if ty = 18 ∨ ty = 19 then finN (sdN f ((p + 4) % 4294967296) (setI (ldN f ((p + 4) % 4294967296)).1 (subw val p))).1 p (setU w (upN (subw val p)))
  else if ty = 23 then finN f p (setU w (upN (subw val p)))
  else if ty = 26 then finN f p (setU w (upN val))
  else if ty = 27 then finN f p (setI w val)
  else if ty = 28 then finN f p (setS w val)
  else if (pairN Rs Ys bias val).2 = false ∨ add ≠ 0 then (13, f)
  else if ty = 25 then finN f p (setS w (pairN Rs Ys bias val).1) else finN f p (setI w (pairN Rs Ys bias val).1)
def oneN (bias : Nat) (Rs : List Rl) (Ys : List Nat) (Ss : List Sp) (f : Nat → Nat) (r : Rl) : Nat × (Nat → Nat) :=
  if sizeN r.ty = 0 ∨ withinN Ss ((bias + r.at_) % 4294967296) (sizeN r.ty) = false then (13, f)
  else if (r.ty ≠ 1 ∧ r.ty ≠ 3 ∧ (bias + r.at_) % 4294967296 % 4 ≠ 0) ∨ (r.ty = 3 ∧ r.sy ≠ 0) then (13, f)
  else if (ldN f ((bias + r.at_) % 4294967296)).2 ≠ 0 then ((ldN f ((bias + r.at_) % 4294967296)).2, f)
  else tailN bias Rs Ys f ((bias + r.at_) % 4294967296) r.ty ((symN Ys bias r.sy + r.add) % 4294967296) (ldN f ((bias + r.at_) % 4294967296)).1 r.add
def OneQ (w : World) (mb : Nat) (R : Nat × (Nat → Nat)) (e : Ending) (w' : World) : Prop := e = .returned (.int .i64 (R.1 : Int)) ∧ w'.row? mb = some (mem R.2) ∧ Chg [mb] w w'
structure OneH (w : World) (J mb : Nat) (v : Jv) (Rs : List Rl) (Ys : List Nat) (Ss : List Sp) (f : Nat → Nat) : Prop where
  job : JobOk w J v Rs Ys Ss
  hm : v.m = .iface 33 (.pointer (some ⟨mb, 0, none⟩))
  row : w.row? mb = some (mem f)
  hf : ∀ i, f i < 256
  jm : J ≠ mb
  rm : v.brl ≠ mb
  ym : v.bsy ≠ mb
  sm : v.bsp ≠ mb
  ns : v.nsp < 1000000
  nr : v.nrl < 1000000
theorem OneH.keep {w w' : World} {J mb : Nat} {v : Jv} {Rs : List Rl} {Ys : List Nat} {Ss : List Sp} {f : Nat → Nat} (h : OneH w J mb v Rs Ys Ss f) (hc : Chg [] w w') : OneH w' J mb v Rs Ys Ss f :=
  ⟨h.job.keep hc (by simp) (by simp) (by simp) (by simp), h.hm, by rw [hc.row (row_lt h.row) (by simp)]; exact h.row, h.hf, h.jm, h.rm, h.ym, h.sm, h.ns, h.nr⟩
theorem mLoad (recv : Value) (w : World) : Sem.run Try.prog (method 217 33 recv "Load") w = .ok (13, recv) w := by kernel_rfl
theorem mStore (recv : Value) (w : World) : Sem.run Try.prog (method 217 33 recv "Store") w = .ok (17, recv) w := by kernel_rfl
theorem far13 (v : Nat) (hv : v < 4294967296) (w : World) : Calls Try.prog 38 #[.int .u32 (v : Int), .int .i64 13] w fun e w' => e = .returned (.bool (farN v 13)) ∧ w' = w := far_any v 13 hv (.inl rfl) w
theorem far21 (v : Nat) (hv : v < 4294967296) (w : World) : Calls Try.prog 38 #[.int .u32 (v : Int), .int .i64 21] w fun e w' => e = .returned (.bool (farN v 21)) ∧ w' = w := far_any v 21 hv (.inr rfl) w
theorem pairN_lt (Rs : List Rl) (Ys : List Nat) (bias a : Nat) : (pairN Rs Ys bias a).1 < 4294967296 := by
  unfold pairN
  split
  · exact subw_lt _ _
  · decide
theorem chg_any {E : List Nat} {w w' : World} (h : Chg [] w w') : Chg E w w' := ⟨h.os, h.tape, h.output, h.size, fun k hk _ => h.block k hk (by simp)⟩
theorem ldN_lt (f : Nat → Nat) (hf : ∀ i, f i < 256) (a : Nat) : (ldN f a).1 < 4294967296 := by
  unfold ldN
  split
  · exact leN_lt f hf (a - rb) 4
  · decide
theorem ldN_err (f : Nat → Nat) (a : Nat) : (ldN f a).2 = 0 ∨ (ldN f a).2 = 18 := by
  unfold ldN
  split
  · exact .inl rfl
  · exact .inr rfl
theorem sdN_lt (f : Nat → Nat) (hf : ∀ i, f i < 256) (a x : Nat) : ∀ i, (sdN f a x).1 i < 256 := by
  intro i
  unfold sdN
  split
  · exact stN_lt f hf _ _ _ i
  · exact hf i
theorem OneH.store {w w' : World} {J mb : Nat} {v : Jv} {Rs : List Rl} {Ys : List Nat} {Ss : List Sp} {f f2 : Nat → Nat} (h : OneH w J mb v Rs Ys Ss f) (hc : Chg [mb] w w') (hr : w'.row? mb = some (mem f2)) (hf : ∀ i, f2 i < 256) : OneH w' J mb v Rs Ys Ss f2 :=
  ⟨h.job.keep hc (by simpa using h.jm) (by simpa using h.rm) (by simpa using h.ym) (by simpa using h.sm), h.hm, hr, hf, h.jm, h.rm, h.ym, h.sm, h.ns, h.nr⟩
theorem JobOk.c4 {w : World} {J : Nat} {v : Jv} {Rs : List Rl} {Ys : List Nat} {Ss : List Sp} (h : JobOk w J v Rs Ys Ss) : w.cell? ⟨J, 4, none⟩ = some (.int .u32 (v.bias : Int)) := by rw [row_cell h.row]; rfl
theorem OneH.c6 {w : World} {J mb : Nat} {v : Jv} {Rs : List Rl} {Ys : List Nat} {Ss : List Sp} {f : Nat → Nat} (h : OneH w J mb v Rs Ys Ss f) : w.cell? ⟨J, 6, none⟩ = some (.iface 33 (.pointer (some ⟨mb, 0, none⟩))) := by rw [row_cell h.job.row, ← h.hm]; rfl
end Go.Proofs.L
