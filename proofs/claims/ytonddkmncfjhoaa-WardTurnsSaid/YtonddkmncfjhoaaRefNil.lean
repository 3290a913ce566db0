/- Proved here: lemmas and contracts (RefNil) for the laws of this seat, for all values of the stated types; no further condition. -/
import Derived.Test.YtonddkmncfjhoaaRefKeep
open Go Go.RowKit Go.Lib
namespace Go.Proofs.L
theorem rpass_none {w b gl f vr vg} (h : Rw w b [] gl f vr vg) : Calls Try.prog 20 #[.pointer (some ⟨b, 0, none⟩)] w fun e w' => e = .returned (.tuple #[]) ∧ w' = w := by
  obtain ⟨p, c, hv⟩ := win_sl h.r
  have c0 := h.c0
  rw [hv] at c0
  clear h hv
  go_enter Try.func20, Try.ntmps20
  go_wp2
  go_end0
  exact ⟨rfl, rfl⟩
theorem rend_none {w b gl f vr vg} (h : Rw w b [] gl f vr vg) (s c : Int) : Calls Try.prog 21 #[.pointer (some ⟨b, 0, none⟩), .int .i64 s, .int .u32 c] w fun e w' => e = .returned (.tuple #[]) ∧ w' = w := by
  obtain ⟨p, c, hv⟩ := win_sl h.r
  have c0 := h.c0
  rw [hv] at c0
  clear h hv
  go_enter Try.func21, Try.ntmps21
  go_wp2
  go_end0
  exact ⟨rfl, rfl⟩
theorem info54 : (Try.prog.info? 54).map (fun i => (i.zero, i.size, i.bytes)) = some (some (.agg (oneL (fun _ => noSta) 0).toArray), 36, 152) := by kernel_rfl
end Go.Proofs.L
