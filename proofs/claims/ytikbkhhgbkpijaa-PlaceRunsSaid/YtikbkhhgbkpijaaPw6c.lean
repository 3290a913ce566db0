/- Proved here: lemmas and contracts (Pw6c) for the laws of this seat, for all values of the stated types; no further condition. -/
import Derived.Test.YtikbkhhgbkpijaaPw6b
open Go Go.RowKit Go.Lib Go.Maps
namespace Go.Proofs.L
attribute [local irreducible] wpT
/-! Get, whatever is asked: both sides' bytes spell the same string -/
def ConvTo (w : World) (v : Value) (xs : ByteArray) : Prop := ∀ w', Chg [] w w' → (convert 35 9 v).run Try.prog w' = .ok (.string xs) w'
theorem ConvTo.keep {w w' : World} {v : Value} {xs : ByteArray} (h : ConvTo w v xs) (hc : Chg [] w w') : ConvTo w' v xs := fun w'' h2 => h w'' (hc.trans h2)
def gsV (f : Nat → Nat) (a n : Nat) : ByteArray := if inRam a n then strOfNums ((gtL f (a - 2147483648) n).map fun x : Nat => (x : Int)) else ByteArray.empty
theorem conv_nil (w : World) : ConvTo w (.slice none 0 0) ByteArray.empty := fun w' _ => run_convert_bytes_nil (P := Try.prog) (w := w') 35 5 Try.underlying35 Try.underlying5 0 0 9 Try.underlying9
theorem conv_own {w : World} {base n o : Nat} {v : Value} {f : Nat → Nat} (h : w.ownsRow base 5 1 v n (u8L (gtL f o n))) : ConvTo w v (strOfNums ((gtL f o n).map fun x : Nat => (x : Int))) := by
  intro w' hc
  obtain ⟨p, cap, rfl, hp⟩ := own_form h
  by_cases h0 : 0 < n
  · obtain ⟨g, rfl, hg⟩ := hp h0
    refine run_convert_bytes_arg (P := Try.prog) w' 35 5 Try.underlying35 Try.underlying5 g 0 n cap _ (by simp [gtL]) (fun i hi => ?_) 9 Try.underlying9
    have h1 := cellsAt h hg i (.int .u8 (f (o + i) : Int)) (by unfold u8L; rw [List.getElem?_map, gtL_get f o n i hi]; rfl)
    rw [Nat.zero_add, cell_keep h1 hc (by simp), List.getD_eq_getElem?_getD, List.getElem?_map, gtL_get f o n i hi]
    rfl
  · obtain rfl : n = 0 := by omega
    rcases h.2 with ⟨hv, -⟩ | ⟨g, c, cur, hv, -⟩
    · rw [hv]; exact conv_nil w w' hc
    · rw [hv]
      exact run_convert_bytes_arg (P := Try.prog) w' 35 5 Try.underlying35 Try.underlying5 g 0 0 c [] rfl (fun i hi => by omega) 9 Try.underlying9
theorem get_all {w : World} {mb a n : Nat} {f : Nat → Nat} (hm : w.row? mb = some (mem f)) (ha : a < 4294967296) (hn : n < 4294967296) :
    Calls Try.prog 12 #[.pointer (some ⟨mb, 0, none⟩), .int .u32 (a : Int), .int .u32 (n : Int)] w fun e w' => ∃ v, e = .returned (.tuple #[v, .int .i64 (if inRam a n then 0 else 18)]) ∧ ConvTo w' v (gsV f a n) ∧ Chg [] w w' := by
  unfold gsV
  cases hg : inRam a n with
  | true =>
    obtain ⟨o, hao, hon⟩ := in_cases hg
    refine (get_ok f a o n mb hao hon w hm).mono fun e w' h => ?_
    obtain ⟨v, he, hv, hc⟩ := h
    refine ⟨v, by rw [he, if_pos rfl], ?_, hc⟩
    rw [if_pos rfl, show a - 2147483648 = o by omega]
    exact conv_own hv
  | false =>
    refine (get_bad a n _ ha hn hg w).mono fun e w' h => ?_
    obtain ⟨he, rfl⟩ := h
    exact ⟨_, by rw [he, if_neg (by simp)], by rw [if_neg (by simp)]; exact conv_nil _, Chg.refl _ _⟩
theorem rget_all {w : World} {p m N a n : Nat} {f : Nat → Nat} (hR : RamAt w p m N f) (ha : a < 4294967296) (hn : n < 4294967296) :
    Calls Try.prog 13 #[.pointer (some ⟨p, 0, none⟩), .int .i64 (a : Int), .int .i64 (n : Int)] w fun e w' => ∃ v, e = .returned (.tuple #[v, .bool (inRam a n)]) ∧ ConvTo w' v (gsV f a n) ∧ Chg [] w w' := by
  unfold gsV
  cases hg : inRam a n with
  | true =>
    obtain ⟨o, hao, hon⟩ := in_cases hg
    refine (rget_ok hR hao hon).mono fun e w' h => ?_
    obtain ⟨v, he, hv, hc⟩ := h
    refine ⟨v, he, ?_, hc⟩
    rw [if_pos rfl, show a - 2147483648 = o by omega]
    exact conv_own hv
  | false =>
    refine (rget_bad (by omega) (by omega) hg).mono fun e w' h => ?_
    obtain ⟨he, rfl⟩ := h
    exact ⟨_, he, by rw [if_neg (by simp)]; exact conv_nil _, Chg.refl _ _⟩
end Go.Proofs.L
