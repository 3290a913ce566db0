/- Proved here: lemmas and contracts (RootsKnown) for the laws of this seat, for all values of the stated types; no further condition. -/
import Derived.Test.YtaoocfemgkjcnaaDoorRootsDefs
open Go Go.RowKit Go.Lib
namespace Go.Proofs.L
theorem k3_2 : rootN 2 3 = 1116352408 := by decide +kernel
theorem k3_3 : rootN 3 3 = 1899447441 := by decide +kernel
theorem k3_5 : rootN 5 3 = 3049323471 := by decide +kernel
theorem k3_7 : rootN 7 3 = 3921009573 := by decide +kernel
theorem k3_11 : rootN 11 3 = 961987163 := by decide +kernel
theorem k3_13 : rootN 13 3 = 1508970993 := by decide +kernel
theorem k3_17 : rootN 17 3 = 2453635748 := by decide +kernel
theorem k3_19 : rootN 19 3 = 2870763221 := by decide +kernel
theorem k3_23 : rootN 23 3 = 3624381080 := by decide +kernel
theorem k3_29 : rootN 29 3 = 310598401 := by decide +kernel
theorem k3_31 : rootN 31 3 = 607225278 := by decide +kernel
theorem k3_37 : rootN 37 3 = 1426881987 := by decide +kernel
theorem k3_41 : rootN 41 3 = 1925078388 := by decide +kernel
theorem k3_43 : rootN 43 3 = 2162078206 := by decide +kernel
theorem k3_47 : rootN 47 3 = 2614888103 := by decide +kernel
theorem k3_53 : rootN 53 3 = 3248222580 := by decide +kernel
theorem k3_59 : rootN 59 3 = 3835390401 := by decide +kernel
theorem k3_61 : rootN 61 3 = 4022224774 := by decide +kernel
theorem k3_67 : rootN 67 3 = 264347078 := by decide +kernel
theorem k3_71 : rootN 71 3 = 604807628 := by decide +kernel
theorem k3_73 : rootN 73 3 = 770255983 := by decide +kernel
theorem k3_79 : rootN 79 3 = 1249150122 := by decide +kernel
theorem k3_83 : rootN 83 3 = 1555081692 := by decide +kernel
theorem k3_89 : rootN 89 3 = 1996064986 := by decide +kernel
theorem k3_97 : rootN 97 3 = 2554220882 := by decide +kernel
theorem k3_101 : rootN 101 3 = 2821834349 := by decide +kernel
theorem k3_103 : rootN 103 3 = 2952996808 := by decide +kernel
theorem k3_107 : rootN 107 3 = 3210313671 := by decide +kernel
theorem k3_109 : rootN 109 3 = 3336571891 := by decide +kernel
theorem k3_113 : rootN 113 3 = 3584528711 := by decide +kernel
theorem k3_127 : rootN 127 3 = 113926993 := by decide +kernel
theorem k3_131 : rootN 131 3 = 338241895 := by decide +kernel
theorem k3_137 : rootN 137 3 = 666307205 := by decide +kernel
theorem k3_139 : rootN 139 3 = 773529912 := by decide +kernel
theorem k3_149 : rootN 149 3 = 1294757372 := by decide +kernel
theorem k3_151 : rootN 151 3 = 1396182291 := by decide +kernel
theorem k3_157 : rootN 157 3 = 1695183700 := by decide +kernel
theorem k3_163 : rootN 163 3 = 1986661051 := by decide +kernel
theorem k3_167 : rootN 167 3 = 2177026350 := by decide +kernel
theorem k3_173 : rootN 173 3 = 2456956037 := by decide +kernel
theorem k3_179 : rootN 179 3 = 2730485921 := by decide +kernel
theorem k3_181 : rootN 181 3 = 2820302411 := by decide +kernel
theorem k3_191 : rootN 191 3 = 3259730800 := by decide +kernel
theorem k3_193 : rootN 193 3 = 3345764771 := by decide +kernel
theorem k3_197 : rootN 197 3 = 3516065817 := by decide +kernel
theorem k3_199 : rootN 199 3 = 3600352804 := by decide +kernel
theorem k3_211 : rootN 211 3 = 4094571909 := by decide +kernel
theorem k3_223 : rootN 223 3 = 275423344 := by decide +kernel
theorem k3_227 : rootN 227 3 = 430227734 := by decide +kernel
theorem k3_229 : rootN 229 3 = 506948616 := by decide +kernel
theorem k3_233 : rootN 233 3 = 659060556 := by decide +kernel
theorem k3_239 : rootN 239 3 = 883997877 := by decide +kernel
theorem k3_241 : rootN 241 3 = 958139571 := by decide +kernel
theorem k3_251 : rootN 251 3 = 1322822218 := by decide +kernel
theorem k3_257 : rootN 257 3 = 1537002063 := by decide +kernel
theorem k3_263 : rootN 263 3 = 1747873779 := by decide +kernel
theorem k3_269 : rootN 269 3 = 1955562222 := by decide +kernel
theorem k3_271 : rootN 271 3 = 2024104815 := by decide +kernel
theorem k3_277 : rootN 277 3 = 2227730452 := by decide +kernel
theorem k3_281 : rootN 281 3 = 2361852424 := by decide +kernel
theorem k3_283 : rootN 283 3 = 2428436474 := by decide +kernel
theorem k3_293 : rootN 293 3 = 2756734187 := by decide +kernel
theorem k3_307 : rootN 307 3 = 3204031479 := by decide +kernel
theorem k3_311 : rootN 311 3 = 3329325298 := by decide +kernel
theorem k2_2 : rootN 2 2 = 1779033703 := by decide +kernel
theorem k2_3 : rootN 3 2 = 3144134277 := by decide +kernel
theorem k2_5 : rootN 5 2 = 1013904242 := by decide +kernel
theorem k2_7 : rootN 7 2 = 2773480762 := by decide +kernel
theorem k2_11 : rootN 11 2 = 1359893119 := by decide +kernel
theorem k2_13 : rootN 13 2 = 2600822924 := by decide +kernel
theorem k2_17 : rootN 17 2 = 528734635 := by decide +kernel
theorem k2_19 : rootN 19 2 = 1541459225 := by decide +kernel
theorem primes312 : ((List.range 312).filter fun q => decide (2 ≤ q) && primeB q) = [2, 3, 5, 7, 11, 13, 17, 19, 23, 29, 31, 37, 41, 43, 47, 53, 59, 61, 67, 71, 73, 79, 83, 89, 97, 101, 103, 107, 109, 113, 127, 131, 137, 139, 149, 151, 157, 163, 167, 173, 179, 181, 191, 193, 197, 199, 211, 223, 227, 229, 233, 239, 241, 251, 257, 263, 269, 271, 277, 281, 283, 293, 307, 311] := by decide +kernel
theorem primes20 : ((List.range 20).filter fun q => decide (2 ≤ q) && primeB q) = [2, 3, 5, 7, 11, 13, 17, 19] := by decide +kernel
theorem outAt_adds : outAt 3 312 = addsL := by
  unfold outAt addsL
  rw [primes312]
  simp only [List.map_cons, List.map_nil, k3_2, k3_3, k3_5, k3_7, k3_11, k3_13, k3_17, k3_19, k3_23, k3_29, k3_31, k3_37, k3_41, k3_43, k3_47, k3_53, k3_59, k3_61, k3_67, k3_71, k3_73, k3_79, k3_83, k3_89, k3_97, k3_101, k3_103, k3_107, k3_109, k3_113, k3_127, k3_131, k3_137, k3_139, k3_149, k3_151, k3_157, k3_163, k3_167, k3_173, k3_179, k3_181, k3_191, k3_193, k3_197, k3_199, k3_211, k3_223, k3_227, k3_229, k3_233, k3_239, k3_241, k3_251, k3_257, k3_263, k3_269, k3_271, k3_277, k3_281, k3_283, k3_293, k3_307, k3_311]
theorem outAt_h0 : outAt 2 20 = h0L := by
  unfold outAt h0L
  rw [primes20]
  simp only [List.map_cons, List.map_nil, k2_2, k2_3, k2_5, k2_7, k2_11, k2_13, k2_17, k2_19]
end Go.Proofs.L
