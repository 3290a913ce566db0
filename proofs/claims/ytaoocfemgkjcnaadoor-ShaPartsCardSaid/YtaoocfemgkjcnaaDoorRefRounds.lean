/- Proved here: lemmas and contracts (RefRounds) for the laws of this seat, for all values of the stated types; no further condition. -/
import Derived.Test.YtaoocfemgkjcnaaDoorRefRoots
import Derived.Test.YtaoocfemgkjcnaaDoorRefPlain
import Derived.Test.YtaoocfemgkjcnaaDoorRefDefs
open Go Go.RowKit Go.Lib
namespace Go.Proofs.L
attribute [local irreducible] wpT
noncomputable def body10 : Code := loopBody ((Tryd.f8.body.bind (findL 10)).getD .skip)
set_option maxRecDepth 1000000 in
set_option maxHeartbeats 40000000 in
theorem rounds_loop {Q0 : Exit → Act → World → Prop} {w5 : World} {T ga ca gs cs S0 : Nat} {WW hh : List Nat} (HA5 : Hid (NatAt w5 .u64 ga addsL)) (HT5 : Hid (NatAt w5 .u64 T WW)) (HWL : Hid (WW.length = 64)) (HHB : Hid (∀ x ∈ hh, x < 4294967296)) (HGS0 : Hid (S0 ≤ gs)) (HS5 : Hid (S0 ≤ w5.heap.size)) (HSV : Hid (NatAt w5 .u64 gs (vsN (v8of hh) WW 0).L))
    (s0 s1 s2 s4 s5 s6 s7 s9 s10 s11 s12 s15 s16 s17 s18 s19 s20 s21 s22 s23 s24 s25 s26 s27 s28 s29 s30 s31 s32 s33 s34 s35 s36 s37 s38 s39 s40 s41 s42 s43 s44 s45 s46 s47 s48 s49 s50 s51 s52 s53 s54 s55 s56 s57 s58 s59 s60 s61 s62 s63 s64 s65 s66 s67 s68 s69 s70 s71 s72 s73 s74 s75 s76 s77 s78 s79 s80 s81 s82 s83 s84 s85 s86 s87 s88 s89 s90 s91 s92 s93 s94 s95 s96 s97 s98 s99 s100 s101 s102 s103 s104 s105 s106 s107 s108 s109 s110 s111 s112 s113 s114 s115 s116 s117 s118 s119 s120 s121 s122 s123 s124 s125 s126 s127 s128 s129 s130 s131 s132 s133 s134 s135 s136 s137 s138 s139 s140 s141 s142 s143 s144 s145 s146 s147 s148 s149 s150 s151 s152 s153 s154 s155 s156 s157 s158 s159 s160 s161 s162 s163 s164 s165 s166 s167 s168 s169 s170 s171 s172 s173 s174 s175 s176 s177 s178 s179 s180 s181 s182 s183 s184 s185 s186 s187 s188 s189 s190 s191 s192 s193 s194 s195 s196 s197 s198 s199 s200 s201 s202 s203 s204 s205 s206 s207 s208 s209 s210 s211 s212 s213 s214 s215 s216 s217 s218 s219 s220 s221 s222 s223 s224 s225 s226 s227 s228 s229 s230 s231 s232 s233 s234 s235 s236 s237 s238 s239 s240 s241 s242 s243 s244 s245 s246 s247 s248 s249 s250 s251 s252 s253 s254 s255 s256 s257 s258 s259 : Value) (hexit : ∀ (g c : Nat) (u14 u15 u16 u17 u18 u122 u123 u124 u125 u126 u127 u128 u129 u130 u131 u132 u133 u134 u135 u136 u137 u138 u139 u140 u141 u142 u143 u144 u145 u146 u147 u148 u149 u150 u151 u152 u153 u154 u155 u156 u157 u158 u159 u160 u161 u162 u163 u164 u165 u166 u167 u168 u169 u170 u171 u172 u173 u174 u175 u176 u177 u178 u179 u180 u181 u182 u183 u184 u185 u186 u187 u188 u189 u190 u191 u192 u193 u194 u195 u196 u197 u198 u199 u200 u201 u202 u203 u204 u205 u206 u207 u208 u209 u210 u211 u212 u213 u214 u215 u216 u217 u218 u219 u220 u221 u222 u223 u224 : Value) (w' : World), S0 ≤ g → NatAt w' .u64 g (vsN (v8of hh) WW 64).L → Chg [] w5 w' → Q0 (.exit 10) ⟨List.toArray (s0 :: s1 :: s2 :: (.slice (some ⟨ga, 0, none⟩) 64 ca) :: s4 :: s5 :: s6 :: s7 :: (.pointer (some ⟨T, 0, none⟩)) :: s9 :: s10 :: s11 :: s12 :: (.slice (some ⟨g, 0, none⟩) 8 c) :: (u14) :: (u15) :: (u16) :: (u17) :: (u18) :: s19 :: s20 :: s21 :: s22 :: s23 :: s24 :: s25 :: s26 :: s27 :: s28 :: s29 :: s30 :: s31 :: s32 :: s33 :: s34 :: s35 :: s36 :: s37 :: s38 :: s39 :: s40 :: s41 :: s42 :: s43 :: s44 :: s45 :: s46 :: s47 :: s48 :: s49 :: s50 :: s51 :: s52 :: s53 :: s54 :: s55 :: s56 :: s57 :: s58 :: s59 :: s60 :: s61 :: s62 :: s63 :: s64 :: s65 :: s66 :: s67 :: s68 :: s69 :: s70 :: s71 :: s72 :: s73 :: s74 :: s75 :: s76 :: s77 :: s78 :: s79 :: s80 :: s81 :: s82 :: s83 :: s84 :: s85 :: s86 :: s87 :: s88 :: s89 :: s90 :: s91 :: s92 :: s93 :: s94 :: s95 :: s96 :: s97 :: s98 :: s99 :: s100 :: s101 :: s102 :: s103 :: s104 :: s105 :: s106 :: s107 :: s108 :: s109 :: s110 :: s111 :: s112 :: s113 :: s114 :: s115 :: s116 :: s117 :: s118 :: s119 :: s120 :: s121 :: (u122) :: (u123) :: (u124) :: (u125) :: (u126) :: (u127) :: (u128) :: (u129) :: (u130) :: (u131) :: (u132) :: (u133) :: (u134) :: (u135) :: (u136) :: (u137) :: (u138) :: (u139) :: (u140) :: (u141) :: (u142) :: (u143) :: (u144) :: (u145) :: (u146) :: (u147) :: (u148) :: (u149) :: (u150) :: (u151) :: (u152) :: (u153) :: (u154) :: (u155) :: (u156) :: (u157) :: (u158) :: (u159) :: (u160) :: (u161) :: (u162) :: (u163) :: (u164) :: (u165) :: (u166) :: (u167) :: (u168) :: (u169) :: (u170) :: (u171) :: (u172) :: (u173) :: (u174) :: (u175) :: (u176) :: (u177) :: (u178) :: (u179) :: (u180) :: (u181) :: (u182) :: (u183) :: (u184) :: (u185) :: (u186) :: (u187) :: (u188) :: (u189) :: (u190) :: (u191) :: (u192) :: (u193) :: (u194) :: (u195) :: (u196) :: (u197) :: (u198) :: (u199) :: (u200) :: (u201) :: (u202) :: (u203) :: (u204) :: (u205) :: (u206) :: (u207) :: (u208) :: (u209) :: (u210) :: (u211) :: (u212) :: (u213) :: (u214) :: (u215) :: (u216) :: (u217) :: (u218) :: (u219) :: (u220) :: (u221) :: (u222) :: (u223) :: (u224) :: s225 :: s226 :: s227 :: s228 :: s229 :: s230 :: s231 :: s232 :: s233 :: s234 :: s235 :: s236 :: s237 :: s238 :: s239 :: s240 :: s241 :: s242 :: s243 :: s244 :: s245 :: s246 :: s247 :: s248 :: s249 :: s250 :: s251 :: s252 :: s253 :: s254 :: s255 :: s256 :: s257 :: s258 :: s259 :: []), []⟩ w') :
    Code.wp Tryd.prog (Code.loop body10) Q0 ⟨List.toArray (s0 :: s1 :: s2 :: (.slice (some ⟨ga, 0, none⟩) 64 ca) :: s4 :: s5 :: s6 :: s7 :: (.pointer (some ⟨T, 0, none⟩)) :: s9 :: s10 :: s11 :: s12 :: (.slice (some ⟨gs, 0, none⟩) 8 cs) :: (.int .i64 0) :: s15 :: s16 :: s17 :: s18 :: s19 :: s20 :: s21 :: s22 :: s23 :: s24 :: s25 :: s26 :: s27 :: s28 :: s29 :: s30 :: s31 :: s32 :: s33 :: s34 :: s35 :: s36 :: s37 :: s38 :: s39 :: s40 :: s41 :: s42 :: s43 :: s44 :: s45 :: s46 :: s47 :: s48 :: s49 :: s50 :: s51 :: s52 :: s53 :: s54 :: s55 :: s56 :: s57 :: s58 :: s59 :: s60 :: s61 :: s62 :: s63 :: s64 :: s65 :: s66 :: s67 :: s68 :: s69 :: s70 :: s71 :: s72 :: s73 :: s74 :: s75 :: s76 :: s77 :: s78 :: s79 :: s80 :: s81 :: s82 :: s83 :: s84 :: s85 :: s86 :: s87 :: s88 :: s89 :: s90 :: s91 :: s92 :: s93 :: s94 :: s95 :: s96 :: s97 :: s98 :: s99 :: s100 :: s101 :: s102 :: s103 :: s104 :: s105 :: s106 :: s107 :: s108 :: s109 :: s110 :: s111 :: s112 :: s113 :: s114 :: s115 :: s116 :: s117 :: s118 :: s119 :: s120 :: s121 :: s122 :: s123 :: s124 :: s125 :: s126 :: s127 :: s128 :: s129 :: s130 :: s131 :: s132 :: s133 :: s134 :: s135 :: s136 :: s137 :: s138 :: s139 :: s140 :: s141 :: s142 :: s143 :: s144 :: s145 :: s146 :: s147 :: s148 :: s149 :: s150 :: s151 :: s152 :: s153 :: s154 :: s155 :: s156 :: s157 :: s158 :: s159 :: s160 :: s161 :: s162 :: s163 :: s164 :: s165 :: s166 :: s167 :: s168 :: s169 :: s170 :: s171 :: s172 :: s173 :: s174 :: s175 :: s176 :: s177 :: s178 :: s179 :: s180 :: s181 :: s182 :: s183 :: s184 :: s185 :: s186 :: s187 :: s188 :: s189 :: s190 :: s191 :: s192 :: s193 :: s194 :: s195 :: s196 :: s197 :: s198 :: s199 :: s200 :: s201 :: s202 :: s203 :: s204 :: s205 :: s206 :: s207 :: s208 :: s209 :: s210 :: s211 :: s212 :: s213 :: s214 :: s215 :: s216 :: s217 :: s218 :: s219 :: s220 :: s221 :: s222 :: s223 :: s224 :: s225 :: s226 :: s227 :: s228 :: s229 :: s230 :: s231 :: s232 :: s233 :: s234 :: s235 :: s236 :: s237 :: s238 :: s239 :: s240 :: s241 :: s242 :: s243 :: s244 :: s245 :: s246 :: s247 :: s248 :: s249 :: s250 :: s251 :: s252 :: s253 :: s254 :: s255 :: s256 :: s257 :: s258 :: s259 :: []), []⟩ w5 := by
  have HX := Lib.hid hexit
  clear hexit
  conv => arg 2; arg 1; whnf
  go_loopw [14, 13] (fun i sv wq => ∃ r g c : Nat, r ≤ 64 ∧ i = .int .i64 r ∧ sv = .slice (some ⟨g, 0, none⟩) 8 c ∧ S0 ≤ g ∧ NatAt wq .u64 g (vsN (v8of hh) WW r).L ∧ Chg [] w5 wq) (fun i _ _ => 64 - (intOf i).toNat)
  case atStart => exact ⟨0, _, _, by omega, rfl, rfl, HGS0.out, HSV.out, Chg.refl _ _⟩
  case round =>
    obtain ⟨r, g, c9, hr, rfl, rfl, hg0, hgv, hcr⟩ := hrel
    have HGV := Lib.hid hgv
    have HCR := Lib.hid hcr
    have HR := Lib.hid hr
    have HG0 := Lib.hid hg0
    clear hgv hcr hr hg0
    by_cases hr64 : r < 64
    · have HRK := Lib.hid hr64
      have hok := vs_ok (v8of hh) WW (by
        refine ⟨?_, ?_, ?_, ?_, ?_, ?_, ?_, ?_⟩ <;> exact getD_lt HHB.out (by decide) _) r
      obtain ⟨vv, hvv⟩ : ∃ v, v = vsN (v8of hh) WW r := ⟨_, rfl⟩
      have hstep : vsN (v8of hh) WW (r + 1) = roundN vv (addsL.getD r 0) (WW.getD r 0) := by rw [hvv]; rfl
      rw [← hvv] at HGV hok
      clear hvv
      obtain ⟨v0, v1, v2, v3, v4, v5, v6, v7⟩ := vv
      obtain ⟨m0, m1, m2, m3, m4, m5, m6, m7⟩ := hok
      simp only [] at m0 m1 m2 m3 m4 m5 m6 m7
      obtain ⟨ad, had⟩ : ∃ x, x = addsL.getD r 0 := ⟨_, rfl⟩
      obtain ⟨wk, hwk⟩ : ∃ x, x = WW.getD r 0 := ⟨_, rfl⟩
      rw [← had, ← hwk] at hstep
      have qad := (HA5.out.keep HCR.out (by simp)).get r ad (by show r < 64; exact hr64) had
      have qwk := (HT5.out.keep HCR.out (by simp)).get r wk (by rw [HWL.out]; exact hr64) hwk
      have q0 := HGV.out 0 v0 rfl
      have q1 := HGV.out 1 v1 rfl
      have q2 := HGV.out 2 v2 rfl
      have q3 := HGV.out 3 v3 rfl
      have q4 := HGV.out 4 v4 rfl
      have q5 := HGV.out 5 v5 rfl
      have q6 := HGV.out 6 v6 rfl
      have q7 := HGV.out 7 v7 rfl
      have rI := ltI64 hr64
      have r64 := hr64
      obtain ⟨r1, hr1⟩ : ∃ x, x = rotl v4 26 := ⟨_, rfl⟩
      have lr1 : r1 < 18446744073709551616 := lt64 (by rw [hr1]; exact rotl_lt _ _ m4)
      have R1 : Hid (∀ w, Calls Tryd.prog 13 #[.int .u64 (v4 : Int), .int .u64 6] w fun e w' => e = .returned (.int .u64 (r1 : Int)) ∧ w' = w) := Lib.hid (fun w => by rw [hr1, ← right_rot v4 6 m4 (by decide) (by decide)]; exact right_any v4 6 (by decide) w)
      obtain ⟨r2, hr2⟩ : ∃ x, x = rotl v4 21 := ⟨_, rfl⟩
      have lr2 : r2 < 18446744073709551616 := lt64 (by rw [hr2]; exact rotl_lt _ _ m4)
      have R2 : Hid (∀ w, Calls Tryd.prog 13 #[.int .u64 (v4 : Int), .int .u64 11] w fun e w' => e = .returned (.int .u64 (r2 : Int)) ∧ w' = w) := Lib.hid (fun w => by rw [hr2, ← right_rot v4 11 m4 (by decide) (by decide)]; exact right_any v4 11 (by decide) w)
      obtain ⟨r3, hr3⟩ : ∃ x, x = rotl v4 7 := ⟨_, rfl⟩
      have lr3 : r3 < 18446744073709551616 := lt64 (by rw [hr3]; exact rotl_lt _ _ m4)
      have R3 : Hid (∀ w, Calls Tryd.prog 13 #[.int .u64 (v4 : Int), .int .u64 25] w fun e w' => e = .returned (.int .u64 (r3 : Int)) ∧ w' = w) := Lib.hid (fun w => by rw [hr3, ← right_rot v4 25 m4 (by decide) (by decide)]; exact right_any v4 25 (by decide) w)
      obtain ⟨r4, hr4⟩ : ∃ x, x = rotl v0 30 := ⟨_, rfl⟩
      have lr4 : r4 < 18446744073709551616 := lt64 (by rw [hr4]; exact rotl_lt _ _ m0)
      have R4 : Hid (∀ w, Calls Tryd.prog 13 #[.int .u64 (v0 : Int), .int .u64 2] w fun e w' => e = .returned (.int .u64 (r4 : Int)) ∧ w' = w) := Lib.hid (fun w => by rw [hr4, ← right_rot v0 2 m0 (by decide) (by decide)]; exact right_any v0 2 (by decide) w)
      obtain ⟨r5, hr5⟩ : ∃ x, x = rotl v0 19 := ⟨_, rfl⟩
      have lr5 : r5 < 18446744073709551616 := lt64 (by rw [hr5]; exact rotl_lt _ _ m0)
      have R5 : Hid (∀ w, Calls Tryd.prog 13 #[.int .u64 (v0 : Int), .int .u64 13] w fun e w' => e = .returned (.int .u64 (r5 : Int)) ∧ w' = w) := Lib.hid (fun w => by rw [hr5, ← right_rot v0 13 m0 (by decide) (by decide)]; exact right_any v0 13 (by decide) w)
      obtain ⟨r6, hr6⟩ : ∃ x, x = rotl v0 10 := ⟨_, rfl⟩
      have lr6 : r6 < 18446744073709551616 := lt64 (by rw [hr6]; exact rotl_lt _ _ m0)
      have R6 : Hid (∀ w, Calls Tryd.prog 13 #[.int .u64 (v0 : Int), .int .u64 22] w fun e w' => e = .returned (.int .u64 (r6 : Int)) ∧ w' = w) := Lib.hid (fun w => by rw [hr6, ← right_rot v0 22 m0 (by decide) (by decide)]; exact right_any v0 22 (by decide) w)
      obtain ⟨y1, hy1⟩ : ∃ x, x = r1 ^^^ r2 := ⟨_, rfl⟩
      have By1 : bits .xor .u64 (r1 : Int) (r2 : Int) = (y1 : Int) := by rw [hy1]; exact (bit_u64 r1 r2 lr1 lr2).1
      have ly1 : y1 < 18446744073709551616 := by rw [hy1]; exact xor64 lr1 lr2
      obtain ⟨y2, hy2⟩ : ∃ x, x = y1 ^^^ r3 := ⟨_, rfl⟩
      have By2 : bits .xor .u64 (y1 : Int) (r3 : Int) = (y2 : Int) := by rw [hy2]; exact (bit_u64 y1 r3 ly1 lr3).1
      have ly2 : y2 < 18446744073709551616 := by rw [hy2]; exact xor64 ly1 lr3
      obtain ⟨z1, hz1⟩ : ∃ x, x = (v7 + y2) % 18446744073709551616 := ⟨_, rfl⟩
      have Az1 := wadd hz1
      obtain ⟨y3, hy3⟩ : ∃ x, x = v4 &&& v5 := ⟨_, rfl⟩
      have By3 : bits .and .u64 (v4 : Int) (v5 : Int) = (y3 : Int) := by rw [hy3]; exact (bit_u64 v4 v5 (lt64 m4) (lt64 m5)).2
      have ly3 : y3 < 18446744073709551616 := by rw [hy3]; exact and64 (lt64 m4) (lt64 m5)
      obtain ⟨ne, hne⟩ : ∃ x, x = 4294967295 - v4 := ⟨_, rfl⟩
      have Ane := wsubm hne m4
      have lne : ne < 18446744073709551616 := lt64 (sub_lt32 hne)
      obtain ⟨y4, hy4⟩ : ∃ x, x = ne &&& v6 := ⟨_, rfl⟩
      have By4 : bits .and .u64 (ne : Int) (v6 : Int) = (y4 : Int) := by rw [hy4]; exact (bit_u64 ne v6 lne (lt64 m6)).2
      have ly4 : y4 < 18446744073709551616 := by rw [hy4]; exact and64 lne (lt64 m6)
      obtain ⟨y5, hy5⟩ : ∃ x, x = y3 ^^^ y4 := ⟨_, rfl⟩
      have By5 : bits .xor .u64 (y3 : Int) (y4 : Int) = (y5 : Int) := by rw [hy5]; exact (bit_u64 y3 y4 ly3 ly4).1
      have ly5 : y5 < 18446744073709551616 := by rw [hy5]; exact xor64 ly3 ly4
      obtain ⟨z2, hz2⟩ : ∃ x, x = (z1 + y5) % 18446744073709551616 := ⟨_, rfl⟩
      have Az2 := wadd hz2
      obtain ⟨z3, hz3⟩ : ∃ x, x = (z2 + ad) % 18446744073709551616 := ⟨_, rfl⟩
      have Az3 := wadd hz3
      obtain ⟨z4, hz4⟩ : ∃ x, x = (z3 + wk) % 18446744073709551616 := ⟨_, rfl⟩
      have Az4 := wadd hz4
      obtain ⟨t, ht⟩ : ∃ x, x = z4 % 4294967296 := ⟨_, rfl⟩
      have Mt := wmod ht
      have Nt := wtmod ht
      obtain ⟨y6, hy6⟩ : ∃ x, x = r4 ^^^ r5 := ⟨_, rfl⟩
      have By6 : bits .xor .u64 (r4 : Int) (r5 : Int) = (y6 : Int) := by rw [hy6]; exact (bit_u64 r4 r5 lr4 lr5).1
      have ly6 : y6 < 18446744073709551616 := by rw [hy6]; exact xor64 lr4 lr5
      obtain ⟨y7, hy7⟩ : ∃ x, x = y6 ^^^ r6 := ⟨_, rfl⟩
      have By7 : bits .xor .u64 (y6 : Int) (r6 : Int) = (y7 : Int) := by rw [hy7]; exact (bit_u64 y6 r6 ly6 lr6).1
      have ly7 : y7 < 18446744073709551616 := by rw [hy7]; exact xor64 ly6 lr6
      obtain ⟨y8, hy8⟩ : ∃ x, x = v0 &&& v1 := ⟨_, rfl⟩
      have By8 : bits .and .u64 (v0 : Int) (v1 : Int) = (y8 : Int) := by rw [hy8]; exact (bit_u64 v0 v1 (lt64 m0) (lt64 m1)).2
      have ly8 : y8 < 18446744073709551616 := by rw [hy8]; exact and64 (lt64 m0) (lt64 m1)
      obtain ⟨y9, hy9⟩ : ∃ x, x = v0 &&& v2 := ⟨_, rfl⟩
      have By9 : bits .and .u64 (v0 : Int) (v2 : Int) = (y9 : Int) := by rw [hy9]; exact (bit_u64 v0 v2 (lt64 m0) (lt64 m2)).2
      have ly9 : y9 < 18446744073709551616 := by rw [hy9]; exact and64 (lt64 m0) (lt64 m2)
      obtain ⟨y10, hy10⟩ : ∃ x, x = y8 ^^^ y9 := ⟨_, rfl⟩
      have By10 : bits .xor .u64 (y8 : Int) (y9 : Int) = (y10 : Int) := by rw [hy10]; exact (bit_u64 y8 y9 ly8 ly9).1
      have ly10 : y10 < 18446744073709551616 := by rw [hy10]; exact xor64 ly8 ly9
      obtain ⟨y11, hy11⟩ : ∃ x, x = v1 &&& v2 := ⟨_, rfl⟩
      have By11 : bits .and .u64 (v1 : Int) (v2 : Int) = (y11 : Int) := by rw [hy11]; exact (bit_u64 v1 v2 (lt64 m1) (lt64 m2)).2
      have ly11 : y11 < 18446744073709551616 := by rw [hy11]; exact and64 (lt64 m1) (lt64 m2)
      obtain ⟨y12, hy12⟩ : ∃ x, x = y10 ^^^ y11 := ⟨_, rfl⟩
      have By12 : bits .xor .u64 (y10 : Int) (y11 : Int) = (y12 : Int) := by rw [hy12]; exact (bit_u64 y10 y11 ly10 ly11).1
      have ly12 : y12 < 18446744073709551616 := by rw [hy12]; exact xor64 ly10 ly11
      obtain ⟨z5, hz5⟩ : ∃ x, x = (y7 + y12) % 18446744073709551616 := ⟨_, rfl⟩
      have Az5 := wadd hz5
      obtain ⟨u, hu⟩ : ∃ x, x = z5 % 4294967296 := ⟨_, rfl⟩
      have Mu := wmod hu
      have Nu := wtmod hu
      obtain ⟨z6, hz6⟩ : ∃ x, x = (t + u) % 18446744073709551616 := ⟨_, rfl⟩
      have Az6 := wadd hz6
      obtain ⟨n0, hn0⟩ : ∃ x, x = z6 % 4294967296 := ⟨_, rfl⟩
      have Mn0 := wmod hn0
      have Nn0 := wtmod hn0
      obtain ⟨z7, hz7⟩ : ∃ x, x = (v3 + t) % 18446744073709551616 := ⟨_, rfl⟩
      have Az7 := wadd hz7
      obtain ⟨n4, hn4⟩ : ∃ x, x = z7 % 4294967296 := ⟨_, rfl⟩
      have Mn4 := wmod hn4
      have Nn4 := wtmod hn4
      have HNX : Hid (vsN (v8of hh) WW (r + 1) = ⟨n0, v0, v1, v2, n4, v4, v5, v6⟩) := Lib.hid (by
        rw [hstep]
        have et : tN v4 v5 v6 v7 ad wk = t := by
          unfold tN
          rw [← hr1, ← hr2, ← hr3, ← hy1, ← hy2, ← ch_eq v4 v5 v6 m4 m6, ← hy3, ← hne, ← hy4, ← hy5]
          exact (t_eq hz1 hz2 hz3 hz4 ht).symm
        have eu : uN v0 v1 v2 = u := by
          unfold uN
          rw [← hr4, ← hr5, ← hr6, ← hy6, ← hy7, ← maj_eq, ← hy8, ← hy9, ← hy10, ← hy11, ← hy12]
          exact (u_eq hz5 hu).symm
        unfold roundN
        simp only []
        rw [et, eu, ← u_eq hz6 hn0, ← u_eq hz7 hn4])
      clear hstep had hwk hr64 hr1 hr2 hr3 hr4 hr5 hr6 hy1 hy2 hy3 hy4 hy5 hy6 hy7 hy8 hy9 hy10 hy11 hy12 hz1 hz2 hz3 hz4 hz5 hz6 hz7 ht hu hn0 hn4 hne lr1 lr2 lr3 lr4 lr5 lr6 ly1 ly2 ly3 ly4 ly5 ly6 ly7 ly8 ly9 ly10 ly11 ly12 lne m0 m1 m2 m3 m4 m5 m6 m7
      go_upto_region 29 with (fail)
      refine wp_region_C (fun w' => w'.cell? ⟨g, 7, none⟩ = some (.int .u64 (v7 : Int)) ∧ w'.cell? ⟨g, 5, none⟩ = some (.int .u64 (v5 : Int)) ∧ w'.cell? ⟨g, 6, none⟩ = some (.int .u64 (v6 : Int)) ∧ w'.cell? ⟨ga, r, none⟩ = some (.int .u64 (ad : Int)) ∧ w'.cell? ⟨T, r, none⟩ = some (.int .u64 (wk : Int))) [(0, 0), (1, 0), (2, 1), (3, 0), (4, 0), (5, 0), (6, 0), (7, 0), (8, 0), (9, 0), (10, 0), (11, 0), (12, 0), (13, 0), (14, 0), (15, 1), (16, 0), (17, 0), (18, 0), (19, 0), (20, 0), (21, 1), (22, 0), (23, 0), (24, 0), (25, 0), (26, 0), (27, 0), (28, 1), (29, 0), (30, 0), (31, 0), (32, 1), (33, 0), (34, 0), (35, 0)] rfl (by kernel_rfl) ?hSR ?hTR
      case hSR => exact ⟨q7, q5, q6, qad, qwk⟩
      refine wpT_pureD (v := ?_) (some 129) rfl rfl (by rfl) (fun w' => ?_) ?_
      rotate_left
      · (go_simp; try with_reducible rfl)
      try simp only [Act.put, List.setIfInBounds_toArray, List.set_cons_zero, List.set_cons_succ]
      refine wpT_pureD (v := ?_) (some 130) rfl rfl (by rfl) (fun w' => ?_) ?_
      rotate_left
      · (go_simp; try with_reducible rfl)
      try simp only [Act.put, List.setIfInBounds_toArray, List.set_cons_zero, List.set_cons_succ]
      refine wpT_readD (v := ?_) (some 131) rfl rfl (by rfl) (fun w' hw => ?_) ?_
      rotate_left
      · (obtain ⟨q0, q1, q2, q3, q4⟩ := hw; go_simp; try with_reducible rfl)
      try simp only [Act.put, List.setIfInBounds_toArray, List.set_cons_zero, List.set_cons_succ]
      refine wpT_pureD (v := ?_) (some 132) rfl rfl (by rfl) (fun w' => ?_) ?_
      rotate_left
      · (go_simp; try with_reducible rfl)
      try simp only [Act.put, List.setIfInBounds_toArray, List.set_cons_zero, List.set_cons_succ]
      refine wpT_call (d := some 133) (f := 13) (args := #[.int .u64 (v4 : Int), .int .u64 6]) (v := .int .u64 (r1 : Int)) rfl rfl (by rfl) (fun w' => by first | rfl | (go_simp; done) | (go_simp; rfl)) (fun w' => R1.out w') ?_
      try simp only [Act.put, List.setIfInBounds_toArray, List.set_cons_zero, List.set_cons_succ]
      try simp only [Act.put, List.setIfInBounds_toArray, List.set_cons_zero, List.set_cons_succ]
      refine wpT_pureD (v := ?_) (some 134) rfl rfl (by rfl) (fun w' => ?_) ?_
      rotate_left
      · (go_simp; try with_reducible rfl)
      try simp only [Act.put, List.setIfInBounds_toArray, List.set_cons_zero, List.set_cons_succ]
      refine wpT_call (d := some 135) (f := 13) (args := #[.int .u64 (v4 : Int), .int .u64 11]) (v := .int .u64 (r2 : Int)) rfl rfl (by rfl) (fun w' => by first | rfl | (go_simp; done) | (go_simp; rfl)) (fun w' => R2.out w') ?_
      try simp only [Act.put, List.setIfInBounds_toArray, List.set_cons_zero, List.set_cons_succ]
      try simp only [Act.put, List.setIfInBounds_toArray, List.set_cons_zero, List.set_cons_succ]
      refine wpT_pureD (v := ?_) (some 136) rfl rfl (by rfl) (fun w' => ?_) ?_
      rotate_left
      · (go_simp; try with_reducible rfl)
      try simp only [Act.put, List.setIfInBounds_toArray, List.set_cons_zero, List.set_cons_succ]
      refine wpT_pureD (v := ?_) (some 137) rfl rfl (by rfl) (fun w' => ?_) ?_
      rotate_left
      · (go_simp; try with_reducible rfl)
      try simp only [Act.put, List.setIfInBounds_toArray, List.set_cons_zero, List.set_cons_succ]
      refine wpT_call (d := some 138) (f := 13) (args := #[.int .u64 (v4 : Int), .int .u64 25]) (v := .int .u64 (r3 : Int)) rfl rfl (by rfl) (fun w' => by first | rfl | (go_simp; done) | (go_simp; rfl)) (fun w' => R3.out w') ?_
      try simp only [Act.put, List.setIfInBounds_toArray, List.set_cons_zero, List.set_cons_succ]
      try simp only [Act.put, List.setIfInBounds_toArray, List.set_cons_zero, List.set_cons_succ]
      refine wpT_pureD (v := ?_) (some 139) rfl rfl (by rfl) (fun w' => ?_) ?_
      rotate_left
      · (go_simp; try with_reducible rfl)
      try simp only [Act.put, List.setIfInBounds_toArray, List.set_cons_zero, List.set_cons_succ]
      refine wpT_pureD (v := ?_) (some 140) rfl rfl (by rfl) (fun w' => ?_) ?_
      rotate_left
      · (go_simp; try with_reducible rfl)
      try simp only [Act.put, List.setIfInBounds_toArray, List.set_cons_zero, List.set_cons_succ]
      refine wpT_pureD (v := ?_) (some 141) rfl rfl (by rfl) (fun w' => ?_) ?_
      rotate_left
      · (go_simp; try with_reducible rfl)
      try simp only [Act.put, List.setIfInBounds_toArray, List.set_cons_zero, List.set_cons_succ]
      refine wpT_pureD (v := ?_) (some 142) rfl rfl (by rfl) (fun w' => ?_) ?_
      rotate_left
      · (go_simp; try with_reducible rfl)
      try simp only [Act.put, List.setIfInBounds_toArray, List.set_cons_zero, List.set_cons_succ]
      refine wpT_pureD (v := ?_) (some 143) rfl rfl (by rfl) (fun w' => ?_) ?_
      rotate_left
      · (go_simp; try with_reducible rfl)
      try simp only [Act.put, List.setIfInBounds_toArray, List.set_cons_zero, List.set_cons_succ]
      refine wpT_readD (v := ?_) (some 144) rfl rfl (by rfl) (fun w' hw => ?_) ?_
      rotate_left
      · (obtain ⟨q0, q1, q2, q3, q4⟩ := hw; go_simp; try with_reducible rfl)
      try simp only [Act.put, List.setIfInBounds_toArray, List.set_cons_zero, List.set_cons_succ]
      refine wpT_pureD (v := ?_) (some 145) rfl rfl (by rfl) (fun w' => ?_) ?_
      rotate_left
      · (go_simp; try with_reducible rfl)
      try simp only [Act.put, List.setIfInBounds_toArray, List.set_cons_zero, List.set_cons_succ]
      refine wpT_pureD (v := ?_) (some 146) rfl rfl (by rfl) (fun w' => ?_) ?_
      rotate_left
      · (go_simp; try with_reducible rfl)
      try simp only [Act.put, List.setIfInBounds_toArray, List.set_cons_zero, List.set_cons_succ]
      refine wpT_pureD (v := ?_) (some 147) rfl rfl (by rfl) (fun w' => ?_) ?_
      rotate_left
      · (go_simp; try with_reducible rfl)
      try simp only [Act.put, List.setIfInBounds_toArray, List.set_cons_zero, List.set_cons_succ]
      refine wpT_pureD (v := ?_) (some 148) rfl rfl (by rfl) (fun w' => ?_) ?_
      rotate_left
      · (go_simp; try with_reducible rfl)
      try simp only [Act.put, List.setIfInBounds_toArray, List.set_cons_zero, List.set_cons_succ]
      refine wpT_pureD (v := ?_) (some 149) rfl rfl (by rfl) (fun w' => ?_) ?_
      rotate_left
      · (go_simp; try with_reducible rfl)
      try simp only [Act.put, List.setIfInBounds_toArray, List.set_cons_zero, List.set_cons_succ]
      refine wpT_readD (v := ?_) (some 150) rfl rfl (by rfl) (fun w' hw => ?_) ?_
      rotate_left
      · (obtain ⟨q0, q1, q2, q3, q4⟩ := hw; go_simp; try with_reducible rfl)
      try simp only [Act.put, List.setIfInBounds_toArray, List.set_cons_zero, List.set_cons_succ]
      refine wpT_pureD (v := ?_) (some 151) rfl rfl (by rfl) (fun w' => ?_) ?_
      rotate_left
      · (go_simp; try with_reducible rfl)
      try simp only [Act.put, List.setIfInBounds_toArray, List.set_cons_zero, List.set_cons_succ]
      refine wpT_pureD (v := ?_) (some 152) rfl rfl (by rfl) (fun w' => ?_) ?_
      rotate_left
      · (go_simp; try with_reducible rfl)
      try simp only [Act.put, List.setIfInBounds_toArray, List.set_cons_zero, List.set_cons_succ]
      refine wpT_pureD (v := ?_) (some 153) rfl rfl (by rfl) (fun w' => ?_) ?_
      rotate_left
      · (go_simp; try with_reducible rfl)
      try simp only [Act.put, List.setIfInBounds_toArray, List.set_cons_zero, List.set_cons_succ]
      refine wpT_pureD (v := ?_) (some 154) rfl rfl (by rfl) (fun w' => ?_) ?_
      rotate_left
      · (go_simp; try with_reducible rfl)
      try simp only [Act.put, List.setIfInBounds_toArray, List.set_cons_zero, List.set_cons_succ]
      refine wpT_pureD (v := ?_) (some 155) rfl rfl (by rfl) (fun w' => ?_) ?_
      rotate_left
      · (go_simp; try with_reducible rfl)
      try simp only [Act.put, List.setIfInBounds_toArray, List.set_cons_zero, List.set_cons_succ]
      refine wpT_pureD (v := ?_) (some 156) rfl rfl (by rfl) (fun w' => ?_) ?_
      rotate_left
      · (go_simp; try with_reducible rfl)
      try simp only [Act.put, List.setIfInBounds_toArray, List.set_cons_zero, List.set_cons_succ]
      refine wpT_readD (v := ?_) (some 157) rfl rfl (by rfl) (fun w' hw => ?_) ?_
      rotate_left
      · (obtain ⟨q0, q1, q2, q3, q4⟩ := hw; go_simp; try with_reducible rfl)
      try simp only [Act.put, List.setIfInBounds_toArray, List.set_cons_zero, List.set_cons_succ]
      refine wpT_pureD (v := ?_) (some 158) rfl rfl (by rfl) (fun w' => ?_) ?_
      rotate_left
      · (go_simp; try with_reducible rfl)
      try simp only [Act.put, List.setIfInBounds_toArray, List.set_cons_zero, List.set_cons_succ]
      refine wpT_pureD (v := ?_) (some 159) rfl rfl (by rfl) (fun w' => ?_) ?_
      rotate_left
      · (go_simp; try with_reducible rfl)
      try simp only [Act.put, List.setIfInBounds_toArray, List.set_cons_zero, List.set_cons_succ]
      refine wpT_pureD (v := ?_) (some 160) rfl rfl (by rfl) (fun w' => ?_) ?_
      rotate_left
      · (go_simp; try with_reducible rfl)
      try simp only [Act.put, List.setIfInBounds_toArray, List.set_cons_zero, List.set_cons_succ]
      refine wpT_readD (v := ?_) (some 161) rfl rfl (by rfl) (fun w' hw => ?_) ?_
      rotate_left
      · (obtain ⟨q0, q1, q2, q3, q4⟩ := hw; go_simp; try with_reducible rfl)
      try simp only [Act.put, List.setIfInBounds_toArray, List.set_cons_zero, List.set_cons_succ]
      refine wpT_pureD (v := ?_) (some 162) rfl rfl (by rfl) (fun w' => ?_) ?_
      rotate_left
      · (go_simp; try with_reducible rfl)
      try simp only [Act.put, List.setIfInBounds_toArray, List.set_cons_zero, List.set_cons_succ]
      refine wpT_pureD (v := ?_) (some 163) rfl rfl (by rfl) (fun w' => ?_) ?_
      rotate_left
      · (go_simp; try with_reducible rfl)
      try simp only [Act.put, List.setIfInBounds_toArray, List.set_cons_zero, List.set_cons_succ]
      refine wpT_pureD (v := ?_) (some 16) rfl rfl (by rfl) (fun w' => ?_) ?_
      rotate_left
      · (go_simp; try with_reducible rfl)
      try simp only [Act.put, List.setIfInBounds_toArray, List.set_cons_zero, List.set_cons_succ]
      refine wpT_end ?_
      clear qad qwk q7 Az1 Az2 Az3 Az4 By1 By2 By3 By4 By5 Ane Mt Nt
      go_upto_region 31 with (fail)
      refine wp_region_C (fun w' => w'.cell? ⟨g, 1, none⟩ = some (.int .u64 (v1 : Int)) ∧ w'.cell? ⟨g, 2, none⟩ = some (.int .u64 (v2 : Int))) [(0, 0), (1, 0), (2, 0), (3, 0), (4, 0), (5, 0), (6, 0), (7, 0), (8, 0), (9, 0), (10, 0), (11, 1), (12, 0), (13, 0), (14, 0), (15, 0), (16, 1), (17, 0), (18, 0), (19, 0), (20, 0), (21, 1), (22, 0), (23, 0), (24, 1), (25, 0), (26, 0), (27, 0), (28, 0), (29, 0)] rfl (by kernel_rfl) ?hSS ?hTS
      case hSS => exact ⟨q1, q2⟩
      refine wpT_pureD (v := ?_) (some 167) rfl rfl (by rfl) (fun w' => ?_) ?_
      rotate_left
      · (go_simp; try with_reducible rfl)
      try simp only [Act.put, List.setIfInBounds_toArray, List.set_cons_zero, List.set_cons_succ]
      refine wpT_call (d := some 168) (f := 13) (args := #[.int .u64 (v0 : Int), .int .u64 2]) (v := .int .u64 (r4 : Int)) rfl rfl (by rfl) (fun w' => by first | rfl | (go_simp; done) | (go_simp; rfl)) (fun w' => R4.out w') ?_
      try simp only [Act.put, List.setIfInBounds_toArray, List.set_cons_zero, List.set_cons_succ]
      try simp only [Act.put, List.setIfInBounds_toArray, List.set_cons_zero, List.set_cons_succ]
      refine wpT_pureD (v := ?_) (some 169) rfl rfl (by rfl) (fun w' => ?_) ?_
      rotate_left
      · (go_simp; try with_reducible rfl)
      try simp only [Act.put, List.setIfInBounds_toArray, List.set_cons_zero, List.set_cons_succ]
      refine wpT_call (d := some 170) (f := 13) (args := #[.int .u64 (v0 : Int), .int .u64 13]) (v := .int .u64 (r5 : Int)) rfl rfl (by rfl) (fun w' => by first | rfl | (go_simp; done) | (go_simp; rfl)) (fun w' => R5.out w') ?_
      try simp only [Act.put, List.setIfInBounds_toArray, List.set_cons_zero, List.set_cons_succ]
      try simp only [Act.put, List.setIfInBounds_toArray, List.set_cons_zero, List.set_cons_succ]
      refine wpT_pureD (v := ?_) (some 171) rfl rfl (by rfl) (fun w' => ?_) ?_
      rotate_left
      · (go_simp; try with_reducible rfl)
      try simp only [Act.put, List.setIfInBounds_toArray, List.set_cons_zero, List.set_cons_succ]
      refine wpT_pureD (v := ?_) (some 172) rfl rfl (by rfl) (fun w' => ?_) ?_
      rotate_left
      · (go_simp; try with_reducible rfl)
      try simp only [Act.put, List.setIfInBounds_toArray, List.set_cons_zero, List.set_cons_succ]
      refine wpT_call (d := some 173) (f := 13) (args := #[.int .u64 (v0 : Int), .int .u64 22]) (v := .int .u64 (r6 : Int)) rfl rfl (by rfl) (fun w' => by first | rfl | (go_simp; done) | (go_simp; rfl)) (fun w' => R6.out w') ?_
      try simp only [Act.put, List.setIfInBounds_toArray, List.set_cons_zero, List.set_cons_succ]
      try simp only [Act.put, List.setIfInBounds_toArray, List.set_cons_zero, List.set_cons_succ]
      refine wpT_pureD (v := ?_) (some 174) rfl rfl (by rfl) (fun w' => ?_) ?_
      rotate_left
      · (go_simp; try with_reducible rfl)
      try simp only [Act.put, List.setIfInBounds_toArray, List.set_cons_zero, List.set_cons_succ]
      refine wpT_pureD (v := ?_) (some 175) rfl rfl (by rfl) (fun w' => ?_) ?_
      rotate_left
      · (go_simp; try with_reducible rfl)
      try simp only [Act.put, List.setIfInBounds_toArray, List.set_cons_zero, List.set_cons_succ]
      refine wpT_pureD (v := ?_) (some 176) rfl rfl (by rfl) (fun w' => ?_) ?_
      rotate_left
      · (go_simp; try with_reducible rfl)
      try simp only [Act.put, List.setIfInBounds_toArray, List.set_cons_zero, List.set_cons_succ]
      refine wpT_pureD (v := ?_) (some 177) rfl rfl (by rfl) (fun w' => ?_) ?_
      rotate_left
      · (go_simp; try with_reducible rfl)
      try simp only [Act.put, List.setIfInBounds_toArray, List.set_cons_zero, List.set_cons_succ]
      refine wpT_readD (v := ?_) (some 178) rfl rfl (by rfl) (fun w' hw => ?_) ?_
      rotate_left
      · (obtain ⟨q0, q1⟩ := hw; go_simp; try with_reducible rfl)
      try simp only [Act.put, List.setIfInBounds_toArray, List.set_cons_zero, List.set_cons_succ]
      refine wpT_pureD (v := ?_) (some 179) rfl rfl (by rfl) (fun w' => ?_) ?_
      rotate_left
      · (go_simp; try with_reducible rfl)
      try simp only [Act.put, List.setIfInBounds_toArray, List.set_cons_zero, List.set_cons_succ]
      refine wpT_pureD (v := ?_) (some 180) rfl rfl (by rfl) (fun w' => ?_) ?_
      rotate_left
      · (go_simp; try with_reducible rfl)
      try simp only [Act.put, List.setIfInBounds_toArray, List.set_cons_zero, List.set_cons_succ]
      refine wpT_pureD (v := ?_) (some 181) rfl rfl (by rfl) (fun w' => ?_) ?_
      rotate_left
      · (go_simp; try with_reducible rfl)
      try simp only [Act.put, List.setIfInBounds_toArray, List.set_cons_zero, List.set_cons_succ]
      refine wpT_pureD (v := ?_) (some 182) rfl rfl (by rfl) (fun w' => ?_) ?_
      rotate_left
      · (go_simp; try with_reducible rfl)
      try simp only [Act.put, List.setIfInBounds_toArray, List.set_cons_zero, List.set_cons_succ]
      refine wpT_readD (v := ?_) (some 183) rfl rfl (by rfl) (fun w' hw => ?_) ?_
      rotate_left
      · (obtain ⟨q0, q1⟩ := hw; go_simp; try with_reducible rfl)
      try simp only [Act.put, List.setIfInBounds_toArray, List.set_cons_zero, List.set_cons_succ]
      refine wpT_pureD (v := ?_) (some 184) rfl rfl (by rfl) (fun w' => ?_) ?_
      rotate_left
      · (go_simp; try with_reducible rfl)
      try simp only [Act.put, List.setIfInBounds_toArray, List.set_cons_zero, List.set_cons_succ]
      refine wpT_pureD (v := ?_) (some 185) rfl rfl (by rfl) (fun w' => ?_) ?_
      rotate_left
      · (go_simp; try with_reducible rfl)
      try simp only [Act.put, List.setIfInBounds_toArray, List.set_cons_zero, List.set_cons_succ]
      refine wpT_pureD (v := ?_) (some 186) rfl rfl (by rfl) (fun w' => ?_) ?_
      rotate_left
      · (go_simp; try with_reducible rfl)
      try simp only [Act.put, List.setIfInBounds_toArray, List.set_cons_zero, List.set_cons_succ]
      refine wpT_pureD (v := ?_) (some 187) rfl rfl (by rfl) (fun w' => ?_) ?_
      rotate_left
      · (go_simp; try with_reducible rfl)
      try simp only [Act.put, List.setIfInBounds_toArray, List.set_cons_zero, List.set_cons_succ]
      refine wpT_readD (v := ?_) (some 188) rfl rfl (by rfl) (fun w' hw => ?_) ?_
      rotate_left
      · (obtain ⟨q0, q1⟩ := hw; go_simp; try with_reducible rfl)
      try simp only [Act.put, List.setIfInBounds_toArray, List.set_cons_zero, List.set_cons_succ]
      refine wpT_pureD (v := ?_) (some 189) rfl rfl (by rfl) (fun w' => ?_) ?_
      rotate_left
      · (go_simp; try with_reducible rfl)
      try simp only [Act.put, List.setIfInBounds_toArray, List.set_cons_zero, List.set_cons_succ]
      refine wpT_pureD (v := ?_) (some 190) rfl rfl (by rfl) (fun w' => ?_) ?_
      rotate_left
      · (go_simp; try with_reducible rfl)
      try simp only [Act.put, List.setIfInBounds_toArray, List.set_cons_zero, List.set_cons_succ]
      refine wpT_readD (v := ?_) (some 191) rfl rfl (by rfl) (fun w' hw => ?_) ?_
      rotate_left
      · (obtain ⟨q0, q1⟩ := hw; go_simp; try with_reducible rfl)
      try simp only [Act.put, List.setIfInBounds_toArray, List.set_cons_zero, List.set_cons_succ]
      refine wpT_pureD (v := ?_) (some 192) rfl rfl (by rfl) (fun w' => ?_) ?_
      rotate_left
      · (go_simp; try with_reducible rfl)
      try simp only [Act.put, List.setIfInBounds_toArray, List.set_cons_zero, List.set_cons_succ]
      refine wpT_pureD (v := ?_) (some 193) rfl rfl (by rfl) (fun w' => ?_) ?_
      rotate_left
      · (go_simp; try with_reducible rfl)
      try simp only [Act.put, List.setIfInBounds_toArray, List.set_cons_zero, List.set_cons_succ]
      refine wpT_pureD (v := ?_) (some 194) rfl rfl (by rfl) (fun w' => ?_) ?_
      rotate_left
      · (go_simp; try with_reducible rfl)
      try simp only [Act.put, List.setIfInBounds_toArray, List.set_cons_zero, List.set_cons_succ]
      refine wpT_pureD (v := ?_) (some 195) rfl rfl (by rfl) (fun w' => ?_) ?_
      rotate_left
      · (go_simp; try with_reducible rfl)
      try simp only [Act.put, List.setIfInBounds_toArray, List.set_cons_zero, List.set_cons_succ]
      refine wpT_pureD (v := ?_) (some 18) rfl rfl (by rfl) (fun w' => ?_) ?_
      rotate_left
      · (go_simp; try with_reducible rfl)
      try simp only [Act.put, List.setIfInBounds_toArray, List.set_cons_zero, List.set_cons_succ]
      refine wpT_end ?_
      clear By6 By7 By8 By9 By10 By11 By12 Az5 Mu Nu
      go_upto_region 32 with (fail)
      refine wp_region_C (fun w' => w'.cell? ⟨g, 0, none⟩ = some (.int .u64 (v0 : Int)) ∧ w'.cell? ⟨g, 1, none⟩ = some (.int .u64 (v1 : Int)) ∧ w'.cell? ⟨g, 2, none⟩ = some (.int .u64 (v2 : Int)) ∧ w'.cell? ⟨g, 3, none⟩ = some (.int .u64 (v3 : Int)) ∧ w'.cell? ⟨g, 4, none⟩ = some (.int .u64 (v4 : Int)) ∧ w'.cell? ⟨g, 5, none⟩ = some (.int .u64 (v5 : Int)) ∧ w'.cell? ⟨g, 6, none⟩ = some (.int .u64 (v6 : Int))) [(0, 0), (1, 0), (2, 0), (3, 0), (4, 0), (5, 0), (6, 1), (7, 0), (8, 0), (9, 1), (10, 0), (11, 0), (12, 1), (13, 0), (14, 0), (15, 1), (16, 0), (17, 0), (18, 0), (19, 0), (20, 0), (21, 1), (22, 0), (23, 0), (24, 1), (25, 0), (26, 0), (27, 1), (28, 3), (29, 3)] rfl (by kernel_rfl) ?hSW ?hTW
      case hSW => exact ⟨q0, q1, q2, q3, q4, q5, q6⟩
      refine wpT_pureD (v := ?_) (some 196) rfl rfl (by rfl) (fun w' => ?_) ?_
      rotate_left
      · (go_simp; try with_reducible rfl)
      try simp only [Act.put, List.setIfInBounds_toArray, List.set_cons_zero, List.set_cons_succ]
      refine wpT_pureD (v := ?_) (some 197) rfl rfl (by rfl) (fun w' => ?_) ?_
      rotate_left
      · (go_simp; try with_reducible rfl)
      try simp only [Act.put, List.setIfInBounds_toArray, List.set_cons_zero, List.set_cons_succ]
      refine wpT_pureD (v := ?_) (some 198) rfl rfl (by rfl) (fun w' => ?_) ?_
      rotate_left
      · (go_simp; try with_reducible rfl)
      try simp only [Act.put, List.setIfInBounds_toArray, List.set_cons_zero, List.set_cons_succ]
      refine wpT_pureD (v := ?_) (some 199) rfl rfl (by rfl) (fun w' => ?_) ?_
      rotate_left
      · (go_simp; try with_reducible rfl)
      try simp only [Act.put, List.setIfInBounds_toArray, List.set_cons_zero, List.set_cons_succ]
      refine wpT_pureD (v := ?_) (some 200) rfl rfl (by rfl) (fun w' => ?_) ?_
      rotate_left
      · (go_simp; try with_reducible rfl)
      try simp only [Act.put, List.setIfInBounds_toArray, List.set_cons_zero, List.set_cons_succ]
      refine wpT_pureD (v := ?_) (some 201) rfl rfl (by rfl) (fun w' => ?_) ?_
      rotate_left
      · (go_simp; try with_reducible rfl)
      try simp only [Act.put, List.setIfInBounds_toArray, List.set_cons_zero, List.set_cons_succ]
      refine wpT_readD (v := ?_) (some 202) rfl rfl (by rfl) (fun w' hw => ?_) ?_
      rotate_left
      · (obtain ⟨q0, q1, q2, q3, q4, q5, q6⟩ := hw; go_simp; try with_reducible rfl)
      try simp only [Act.put, List.setIfInBounds_toArray, List.set_cons_zero, List.set_cons_succ]
      refine wpT_pureD (v := ?_) (some 203) rfl rfl (by rfl) (fun w' => ?_) ?_
      rotate_left
      · (go_simp; try with_reducible rfl)
      try simp only [Act.put, List.setIfInBounds_toArray, List.set_cons_zero, List.set_cons_succ]
      refine wpT_pureD (v := ?_) (some 204) rfl rfl (by rfl) (fun w' => ?_) ?_
      rotate_left
      · (go_simp; try with_reducible rfl)
      try simp only [Act.put, List.setIfInBounds_toArray, List.set_cons_zero, List.set_cons_succ]
      refine wpT_readD (v := ?_) (some 205) rfl rfl (by rfl) (fun w' hw => ?_) ?_
      rotate_left
      · (obtain ⟨q0, q1, q2, q3, q4, q5, q6⟩ := hw; go_simp; try with_reducible rfl)
      try simp only [Act.put, List.setIfInBounds_toArray, List.set_cons_zero, List.set_cons_succ]
      refine wpT_pureD (v := ?_) (some 206) rfl rfl (by rfl) (fun w' => ?_) ?_
      rotate_left
      · (go_simp; try with_reducible rfl)
      try simp only [Act.put, List.setIfInBounds_toArray, List.set_cons_zero, List.set_cons_succ]
      refine wpT_pureD (v := ?_) (some 207) rfl rfl (by rfl) (fun w' => ?_) ?_
      rotate_left
      · (go_simp; try with_reducible rfl)
      try simp only [Act.put, List.setIfInBounds_toArray, List.set_cons_zero, List.set_cons_succ]
      refine wpT_readD (v := ?_) (some 208) rfl rfl (by rfl) (fun w' hw => ?_) ?_
      rotate_left
      · (obtain ⟨q0, q1, q2, q3, q4, q5, q6⟩ := hw; go_simp; try with_reducible rfl)
      try simp only [Act.put, List.setIfInBounds_toArray, List.set_cons_zero, List.set_cons_succ]
      refine wpT_pureD (v := ?_) (some 209) rfl rfl (by rfl) (fun w' => ?_) ?_
      rotate_left
      · (go_simp; try with_reducible rfl)
      try simp only [Act.put, List.setIfInBounds_toArray, List.set_cons_zero, List.set_cons_succ]
      refine wpT_pureD (v := ?_) (some 210) rfl rfl (by rfl) (fun w' => ?_) ?_
      rotate_left
      · (go_simp; try with_reducible rfl)
      try simp only [Act.put, List.setIfInBounds_toArray, List.set_cons_zero, List.set_cons_succ]
      refine wpT_readD (v := ?_) (some 211) rfl rfl (by rfl) (fun w' hw => ?_) ?_
      rotate_left
      · (obtain ⟨q0, q1, q2, q3, q4, q5, q6⟩ := hw; go_simp; try with_reducible rfl)
      try simp only [Act.put, List.setIfInBounds_toArray, List.set_cons_zero, List.set_cons_succ]
      refine wpT_pureD (v := ?_) (some 212) rfl rfl (by rfl) (fun w' => ?_) ?_
      rotate_left
      · (go_simp; try with_reducible rfl)
      try simp only [Act.put, List.setIfInBounds_toArray, List.set_cons_zero, List.set_cons_succ]
      refine wpT_pureD (v := ?_) (some 213) rfl rfl (by rfl) (fun w' => ?_) ?_
      rotate_left
      · (go_simp; try with_reducible rfl)
      try simp only [Act.put, List.setIfInBounds_toArray, List.set_cons_zero, List.set_cons_succ]
      refine wpT_pureD (v := ?_) (some 214) rfl rfl (by rfl) (fun w' => ?_) ?_
      rotate_left
      · (go_simp; try with_reducible rfl)
      try simp only [Act.put, List.setIfInBounds_toArray, List.set_cons_zero, List.set_cons_succ]
      refine wpT_pureD (v := ?_) (some 215) rfl rfl (by rfl) (fun w' => ?_) ?_
      rotate_left
      · (go_simp; try with_reducible rfl)
      try simp only [Act.put, List.setIfInBounds_toArray, List.set_cons_zero, List.set_cons_succ]
      refine wpT_pureD (v := ?_) (some 216) rfl rfl (by rfl) (fun w' => ?_) ?_
      rotate_left
      · (go_simp; try with_reducible rfl)
      try simp only [Act.put, List.setIfInBounds_toArray, List.set_cons_zero, List.set_cons_succ]
      refine wpT_readD (v := ?_) (some 217) rfl rfl (by rfl) (fun w' hw => ?_) ?_
      rotate_left
      · (obtain ⟨q0, q1, q2, q3, q4, q5, q6⟩ := hw; go_simp; try with_reducible rfl)
      try simp only [Act.put, List.setIfInBounds_toArray, List.set_cons_zero, List.set_cons_succ]
      refine wpT_pureD (v := ?_) (some 218) rfl rfl (by rfl) (fun w' => ?_) ?_
      rotate_left
      · (go_simp; try with_reducible rfl)
      try simp only [Act.put, List.setIfInBounds_toArray, List.set_cons_zero, List.set_cons_succ]
      refine wpT_pureD (v := ?_) (some 219) rfl rfl (by rfl) (fun w' => ?_) ?_
      rotate_left
      · (go_simp; try with_reducible rfl)
      try simp only [Act.put, List.setIfInBounds_toArray, List.set_cons_zero, List.set_cons_succ]
      refine wpT_readD (v := ?_) (some 220) rfl rfl (by rfl) (fun w' hw => ?_) ?_
      rotate_left
      · (obtain ⟨q0, q1, q2, q3, q4, q5, q6⟩ := hw; go_simp; try with_reducible rfl)
      try simp only [Act.put, List.setIfInBounds_toArray, List.set_cons_zero, List.set_cons_succ]
      refine wpT_pureD (v := ?_) (some 221) rfl rfl (by rfl) (fun w' => ?_) ?_
      rotate_left
      · (go_simp; try with_reducible rfl)
      try simp only [Act.put, List.setIfInBounds_toArray, List.set_cons_zero, List.set_cons_succ]
      refine wpT_pureD (v := ?_) (some 222) rfl rfl (by rfl) (fun w' => ?_) ?_
      rotate_left
      · (go_simp; try with_reducible rfl)
      try simp only [Act.put, List.setIfInBounds_toArray, List.set_cons_zero, List.set_cons_succ]
      refine wpT_readD (v := ?_) (some 223) rfl rfl (by rfl) (fun w' hw => ?_) ?_
      rotate_left
      · (obtain ⟨q0, q1, q2, q3, q4, q5, q6⟩ := hw; go_simp; try with_reducible rfl)
      try simp only [Act.put, List.setIfInBounds_toArray, List.set_cons_zero, List.set_cons_succ]
      refine wpT_brk rfl (by rfl) (fun K hK => ?_)
      go_wp2_with fail
      refine wpT_brk rfl (by rfl) (fun K hK => ?_)
      go_wp2_with fail
      refine wpT_end ?_
      clear q0 q1 q2 q3 q4 q5 q6 Az6 Az7 Mn0 Nn0 Mn4 Nn4
      go_wp2
      case roundEnd =>
        refine ⟨⟨r + 1, _, _, HRK.out, rfl, rfl, ?_, ?_, ?_⟩, by simp only [intOf]; have := HRK.out; omega⟩
        · have := HCR.out.size
          have := HS5.out
          (try simp only [heap_drew])
          first | omega | exact Nat.le_trans HS5.out HCR.out.size
        · rw [HNX.out]
          refine natAt_row ?_
          (try simp only [row_drew])
          exact row_alloc_at _ _ _ _ rfl
        · (repeat refine Chg.drew ?_)
          exact HCR.out.alloc _

    · have hr6 : r = 64 := by have := HR.out; omega
      have dR : ¬ (r : Int) < 64 := by omega
      rw [hr6] at HGV
      clear hr6 hr64
      go_wp2_with fail
      exact HX.out g c9 _ _ _ _ _ _ _ _ _ _ _ _ _ _ _ _ _ _ _ _ _ _ _ _ _ _ _ _ _ _ _ _ _ _ _ _ _ _ _ _ _ _ _ _ _ _ _ _ _ _ _ _ _ _ _ _ _ _ _ _ _ _ _ _ _ _ _ _ _ _ _ _ _ _ _ _ _ _ _ _ _ _ _ _ _ _ _ _ _ _ _ _ _ _ _ _ _ _ _ _ _ _ _ _ _ _ _ _ wr HG0.out HGV.out HCR.out
end Go.Proofs.L
