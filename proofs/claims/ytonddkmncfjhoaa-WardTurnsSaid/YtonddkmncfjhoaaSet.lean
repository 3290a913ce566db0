/- Proved here: lemmas and contracts (Set) for the laws of this seat, for all values of the stated types; no further condition. -/
import Derived.Test.YtonddkmncfjhoaaNoneWalk
open Go Go.RowKit Go.Lib
namespace Go.Proofs.L
/-- may a status be? -/
def okSta (S : Sta) : Prop := 0 ≤ S.s ∧ S.s ≤ 2 ∧ S.x 0 = 0 ∧ ¬ (S.s = 0 ∧ S.c ≠ 0)
instance (S : Sta) : Decidable (okSta S) := by unfold okSta; infer_instance
def anyR (L : Nat → Sta) : Nat → Bool
  | 0 => false
  | k + 1 => anyR L k || decide ((L k).s = 0)
/-- statuses in a slice that came in -/
def Lies (w : World) (sb so len : Nat) (L : Nat → Sta) : Prop := ∀ (i : Nat), i < len → ∀ (j : Nat) (u : Value), (stL (L i))[j]? = some u → w.cell? ⟨sb, so + i * 35 + j, none⟩ = some u
theorem Lies.lt {w sb so len L} (h : Lies w sb so len L) (h0 : 0 < len) : sb < w.heap.size := by
  have := h 0 h0 0 _ (stL_0 _)
  have := World.block_lt_of_cell? w _ this
  simpa using this
theorem Lies.keep {E w w' sb so len L} (h : Lies w sb so len L) (hc : Chg E w w') (hE : sb ∉ E) : Lies w' sb so len L := fun i hi j u hu => by
  have h1 := h i hi j u hu
  rw [World.cell?_of_block (w := w) (hc.block sb (by have := World.block_lt_of_cell? w _ h1; simpa using this) hE)]; exact h1
theorem set_len {w b n f t g o cap} (h : Wd w b n f t g o cap) (p : Option Addr) (len c : Nat) (T : Int) (hl : len ≠ n ∨ T < -1 ∨ (len : Int) ≤ T) : Calls Try.prog 18 #[.pointer (some ⟨b, 0, none⟩), .slice p len c, .int .i64 T] w fun e w' => e = .returned (.int .i64 3) ∧ w' = w := by
  have c0 := h.c0
  clear h
  by_cases h1 : len = n
  · subst h1
    by_cases h2 : T < -1
    · have d : decide (T < -1) = true := by simpa using h2
      clear hl h2
      go_enter Try.func18, Try.ntmps18
      go_wp2
      go_ret
      exact ⟨rfl, rfl⟩
    · have d : decide (T < -1) = false := by simpa using h2
      have d1 : decide (T ≥ (len : Int)) = true := by simp; omega
      have d2 : decide ((len : Int) ≤ T) = true := by simp; omega
      clear hl h2
      go_enter Try.func18, Try.ntmps18
      go_wp2
      go_ret
      exact ⟨rfl, rfl⟩
  · have d : ((len : Int) != (n : Int)) = true := by simp; omega
    have d1 : ((len : Int) == (n : Int)) = false := by simp; omega
    have d2 : ((len : Int) = (n : Int)) = False := by simp; omega
    clear hl
    go_enter Try.func18, Try.ntmps18
    go_wp2
    go_ret
    exact ⟨rfl, rfl⟩
def setOk (L : Nat → Sta) (n : Nat) (T : Int) : Prop := (∀ i, i < n → okSta (L i)) ∧ anyR L n = decide (0 ≤ T) ∧ (∀ t : Nat, T = t → (L t).s = 0)
set_option maxHeartbeats 3200000 in
theorem set_in {w b n f t g o cap} (h : Wd w b n f t g o cap) (sb so c : Nat) (L : Nat → Sta) (hL : Lies w sb so n L) (T : Int) (hT1 : -1 ≤ T) (hT2 : T < n) (h0 : 0 < n) (h4 : n ≤ 4) :
    Calls Try.prog 18 #[.pointer (some ⟨b, 0, none⟩), .slice (some ⟨sb, so, none⟩) n c, .int .i64 T] w fun e w' =>
      (setOk L n T ∧ e = .returned (.int .i64 0) ∧ ∃ g' o' c', Wd w' b n L T g' o' c' ∧ w.heap.size ≤ g' ∧ Chg [b] w w') ∨ (¬ setOk L n T ∧ e = .returned (.int .i64 3) ∧ Chg [] w w') := by
  obtain ⟨i0, hi0, hz0, hz1, hz2⟩ := info_parts info40
  have HW := Lib.hid h
  have HL := Lib.hid hL
  have HN := Lib.hid h4
  have H0 := Lib.hid h0
  have HT1 := Lib.hid hT1
  have HT2 := Lib.hid hT2
  have c0 := h.c0
  have d1 : ((n : Int) != (n : Int)) = false := by simp
  have d2 : decide (T < -1) = false := by simp; omega
  have d3 : decide (T ≥ (n : Int)) = false := by simp; omega
  have d4 : decide ((n : Int) ≤ T) = false := by simp; omega
  clear h hL hT1 hT2
  go_enter Try.func18, Try.ntmps18
  go_wp2_with fail
  go_loopw [34, 9, 7] (fun i _ an wr => ∃ k : Nat, k ≤ n ∧ i = .int .i64 k ∧ an = .bool (anyR L k) ∧ (∀ i, i < k → okSta (L i)) ∧ Chg [] w wr) (fun i _ _ _ => n - (intOf i).toNat)
  case atStart => exact ⟨0, by omega, rfl, rfl, fun i hi => by omega, Chg.refl _ _⟩
  case round =>
    obtain ⟨k, hk, rfl, rfl, hok, hC⟩ := hrel
    have HOK := Lib.hid hok
    have HC := Lib.hid hC
    have hWr := HW.out.keep hC (by simp) (by simp)
    clear hok hC c0
    by_cases hk2 : k < n
    · have dk : decide ((k : Int) < (n : Int)) = true := by simp; omega
      have hkI : (k : Int) < (n : Int) := by omega
      obtain ⟨S, hS⟩ : ∃ S, S = L k := ⟨_, rfl⟩
      have HLr := HL.out.keep HC.out (by simp) k hk2
      rw [← hS] at HLr
      have HLK := Lib.hid HLr
      obtain ⟨bt, hbt⟩ : ∃ x, x = wr.heap.size := ⟨_, rfl⟩
      obtain ⟨Z, hZ⟩ : ∃ Z, Z = wr.alloc (.cells (stL S).toArray 40) := ⟨_, rfl⟩
      have rz : Z.row? bt = some (stL S).toArray := by rw [hZ]; exact row_alloc_at _ _ _ _ hbt
      have z0 : Z.cell? ⟨bt, 0, none⟩ = some (.int .i64 S.s) := by rw [row_cell rz]; simpa using stL_0 S
      have z1 : Z.cell? ⟨bt, 1, none⟩ = some (.int .u32 (S.c : Int)) := by rw [row_cell rz]; simpa using stL_1 S
      have z3 : Z.cell? ⟨bt, 3, none⟩ = some (.int .u32 (S.x 0 : Int)) := by rw [row_cell rz]; simpa using stL_x S 0 (by omega)
      have HCZ : Hid (Chg [] w Z) := Lib.hid (by rw [hZ]; exact HC.out.alloc _)
      have hln := stL_len S
      have hsz : (stL S).toArray.size = 35 := by simp [stL_len]
      have hall := stL_allOne S
      have hany : anyR L (k + 1) = (anyR L k || decide (S.s = 0)) := by rw [hS]; rfl
      have HANY := Lib.hid hany
      have HS := Lib.hid hS
      obtain ⟨l, hl⟩ : ∃ l, l = stL S := ⟨_, rfl⟩
      rw [← hl] at HLK hln hsz hall hZ
      clear hWr HLr rz hl hS hany
      go_upto_region 7 with (first | refine wpList_load_part a40 l rfl _ rfl rfl hln HLK.out ?_ | refine wpList_store_new a40 _ _ rfl rfl rfl rfl rfl rfl hsz hall ?_)
      rw [← hbt, ← hZ]
      clear hbt hZ
      obtain ⟨A, hA⟩ : ∃ A, A = anyR L k := ⟨_, rfl⟩
      rw [← hA] at HANY
      rw [← hA]
      have HA := Lib.hid hA
      clear hA
      by_cases hok : okSta S
      · have HOKS := Lib.hid hok
        obtain ⟨a1, a2, a3, a4⟩ := hok
        have e1 : decide (S.s < 0) = false := by simp; omega
        have e2 : decide (S.s > 2) = false := by simp; omega
        have e2' : decide (2 < S.s) = false := by simp; omega
        rw [a3] at z3
        by_cases hz : S.s = 0
        · have hc0 : S.c = 0 := Decidable.byContradiction fun hh => a4 ⟨hz, hh⟩
          rw [hz] at z0 HANY
          rw [hc0] at z1
          clear a1 a2 a3 a4 hz hc0
          cases A
          all_goals go_wp2
          all_goals (first | exact ⟨⟨k + 1, by omega, by go_num, by rw [HANY.out]; simp, fun i hi => (by
            by_cases hik : i < k
            · exact HOK.out i hik
            · obtain rfl : i = k := by omega
              rw [← HS.out]; exact HOKS.out), HCZ.out⟩, by simp only [intOf]; omega⟩)
        · have e3 : (S.s == 0) = false := by simpa using hz
          have e4 : (S.s = 0) = False := by simpa using hz
          clear a1 a2 a3 a4 hz
          cases A
          all_goals go_wp2
          all_goals (first | exact ⟨⟨k + 1, by omega, by go_num, by rw [HANY.out]; simp [e4], fun i hi => (by
            by_cases hik : i < k
            · exact HOK.out i hik
            · obtain rfl : i = k := by omega
              rw [← HS.out]; exact HOKS.out), HCZ.out⟩, by simp only [intOf]; omega⟩)
      · have hbad : ¬ setOk L n T := fun hh => hok (by rw [HS.out]; exact hh.1 k hk2)
        have HBAD := Lib.hid hbad
        clear hbad
        by_cases h1 : S.s < 0
        · have e1 : decide (S.s < 0) = true := by simpa using h1
          clear hok h1
          go_wp2
          go_ret
          exact .inr ⟨HBAD.out, rfl, HCZ.out⟩
        have e1 : decide (S.s < 0) = false := by simpa using h1
        by_cases h2 : 2 < S.s
        · have e2 : decide (S.s > 2) = true := by simpa using h2
          have e2' : decide (2 < S.s) = true := by simpa using h2
          clear hok h1 h2
          go_wp2
          go_ret
          exact .inr ⟨HBAD.out, rfl, HCZ.out⟩
        have e2 : decide (S.s > 2) = false := by simpa using h2
        have e2' : decide (2 < S.s) = false := by simpa using h2
        by_cases h3 : S.x 0 = 0
        · have hz : S.s = 0 ∧ S.c ≠ 0 := Decidable.byContradiction fun hh => hok ⟨by omega, by omega, h3, hh⟩
          obtain ⟨hz, hc⟩ := hz
          rw [h3] at z3
          rw [hz] at z0
          have e3 : ((S.c : Int) == 0) = false := by simpa using hc
          have e4 : ((S.c : Int) = 0) = False := by simpa using hc
          have e5 : (S.c = 0) = False := by simpa using hc
          clear hok h1 h2 h3 hz hc e1 e2 e2'
          go_wp2
          go_ret
          exact .inr ⟨HBAD.out, rfl, HCZ.out⟩
        · have e3 : ((S.x 0 : Int) == 0) = false := by simpa using h3
          have e4 : ((S.x 0 : Int) = 0) = False := by simpa using h3
          have e5 : (S.x 0 = 0) = False := by simpa using h3
          clear hok h1 h2 h3
          go_wp2
          go_ret
          exact .inr ⟨HBAD.out, rfl, HCZ.out⟩
    · obtain rfl : k = n := by omega
      have dk : decide ((k : Int) < (k : Int)) = false := by simp
      obtain ⟨A, hA⟩ : ∃ A, A = anyR L k := ⟨_, rfl⟩
      rw [← hA]
      have HA := Lib.hid hA
      have HB := Lib.hid hWr
      have f0 := hWr.fr 0
      have f1 := hWr.fr 1
      have c0 := hWr.c0
      have c1 := hWr.c1
      have hsrc : ∀ (j : Nat) (u : Value), (fl L k)[j]? = some u → wr.cell? ((⟨sb, so, none⟩ : Addr).add j) = some u := fun j u hu => by
        have hj : j < k * 35 := by have := (List.getElem?_eq_some_iff.1 hu).1; rwa [fl_len] at this
        have h1 := fl_get L k (j / 35) (j % 35) (by omega) (by omega)
        rw [show j / 35 * 35 + j % 35 = j by omega] at h1
        have h2 := HL.out.keep HC.out (by simp) (j / 35) (by omega) (j % 35) u (by rw [← h1]; exact hu)
        rw [addr_add]
        rwa [show so + j / 35 * 35 + j % 35 = so + j by omega] at h2
      have HSRC := Lib.hid hsrc
      have HFL := Lib.hid (fl_len L k)
      have HMEM := Lib.hid (fl_mem L k)
      have HWN : Hid (Win wr 35 (.slice none 0 0) 0 []) := Lib.hid (win_nil _ _)
      have HSB : Hid (sb < wr.heap.size) := Lib.hid (by have := HL.out.lt H0.out; have := HC.out.size; omega)
      clear hA hWr hsrc hk2
      have good : ∀ v' W3, Win W3 35 v' (0 + k) ([] ++ fl L k) → Chg (Value.slice none 0 0).ownBlock.toList wr W3 → (v'.ownBlock = (Value.slice none 0 0).ownBlock ∨ v'.ownBlock = some wr.heap.size) → ∃ p' c', v' = .slice p' k c' ∧ W3.cell? ⟨b, 0, none⟩ = some (.slice (some ⟨g, o, none⟩) k cap) ∧ W3.cell? ⟨b, 1, none⟩ = some (.int .i64 t) ∧ W3.frozen? ⟨b, 0, none⟩ = false ∧ W3.frozen? ⟨b, 1, none⟩ = false ∧
          ∃ g' o' c', Wd ((W3.setCell ⟨b, 0, none⟩ v').setCell ⟨b, 1, none⟩ (.int .i64 T)) b k L T g' o' c' ∧ w.heap.size ≤ g' ∧ Chg [b] w ((W3.setCell ⟨b, 0, none⟩ v').setCell ⟨b, 1, none⟩ (.int .i64 T)) := fun v' W3 h1 h2 h3 => by
        rw [Nat.zero_add, List.nil_append] at h1
        have h2' : Chg [] wr W3 := h2
        have hB3 := HB.out.keep h2' (by simp) (by simp)
        rcases h1.2 with ⟨-, hz⟩ | ⟨g', o', c', rfl, -, hg', -, -⟩
        · have := H0.out; omega
        · have hgs : g' = wr.heap.size := by
            rcases h3 with h3 | h3
            · simp [Value.ownBlock] at h3
            · simpa [Value.ownBlock] using h3
          have hbw := HB.out.lt
          have hgb : g' ≠ b := by omega
          refine ⟨_, _, rfl, hB3.c0, hB3.c1, hB3.fr 0, hB3.fr 1, g', o', c', ⟨?_, ?_, hgb⟩, by have := HC.out.size; omega, ?_⟩
          · rw [row_setCell_same, row_setCell_same, hB3.1]; rfl
          · have hc1 : Chg [b] W3 ((W3.setCell ⟨b, 0, none⟩ (.slice (some ⟨g', o', none⟩) k c')).setCell ⟨b, 1, none⟩ (.int .i64 T)) := ((Chg.refl _ _).setCell (Or.inl (by simp)) _).setCell (Or.inl (by simp)) _
            exact h1.keep hc1 (fun x hx => by simp [Value.ownBlock] at hx; subst hx; simpa using hgb)
          · exact (((chg1 (HC.out.trans h2')).setCell (Or.inl (by simp)) _).setCell (Or.inl (by simp)) _)
      have GOOD := Lib.hid good
      clear good
      have hall : ∀ i, i < k → okSta (L i) := HOK.out
      have HALL := Lib.hid hall
      clear hall
      by_cases hT : 0 ≤ T
      · obtain ⟨tt, rfl⟩ : ∃ tt : Nat, T = tt := ⟨T.toNat, by omega⟩
        have htk : tt < k := by have := HT2.out; omega
        have t1 : decide ((tt : Int) ≥ 0) = true := by simp
        have t2 : decide ((0 : Int) ≤ (tt : Int)) = true := by simp
        have htI : (tt : Int) < (k : Int) := by omega
        have ct := HL.out.keep HC.out (by simp) tt htk 0 _ (stL_0 _)
        rw [Nat.add_zero] at ct
        obtain ⟨S, hS⟩ : ∃ S, S = L tt := ⟨_, rfl⟩
        rw [← hS] at ct
        have HSS := Lib.hid hS
        clear hS hT htk
        cases A with
        | false =>
          have hb : ¬ setOk L k (tt : Int) := fun hh => by
            have := hh.2.1; rw [← HA.out] at this; simp at this
          have HBAD := Lib.hid hb
          clear hb
          go_wp2
          go_ret
          exact .inr ⟨HBAD.out, rfl, HC.out⟩
        | true =>
          by_cases hz : S.s = 0
          · rw [hz] at ct
            have hs : setOk L k (tt : Int) := ⟨HALL.out, by rw [← HA.out]; simp, fun t' ht' => by
              obtain rfl : t' = tt := by omega
              rw [← HSS.out]; exact hz⟩
            have HS := Lib.hid hs
            clear hs hz
            go_wp2_with (at_builtin; refine wpList_append_win rfl _ _ 33 rfl 40 i0 (.agg (stL noSta).toArray) 35 144 Try.underlying33 hi0 hz0 hz1 hz2 rfl (.slice none 0 0) 0 [] rfl HWN.out ⟨sb, so, none⟩ k c (fl L k) rfl HFL.out HSRC.out HMEM.out (by have := H0.out; omega) (by have := HN.out; unfold maxLen; omega) (by have := HN.out; omega) ?_)
            intro v' W3 q1 q2 q3
            obtain ⟨p', c', rfl, w0, w1, w2, w3, g', o', c'', hwd, hgg, hch⟩ := GOOD.out v' W3 (by rw [Nat.zero_add]; exact q1) q2 q3
            have HWD := Lib.hid hwd
            have HGG := Lib.hid hgg
            have HCH := Lib.hid hch
            clear q1 q2 q3 hwd hgg hch
            go_wp2
            go_ret
            exact .inl ⟨HS.out, rfl, g', o', c'', HWD.out, HGG.out, HCH.out⟩
          · have z1 : (S.s == 0) = false := by simpa using hz
            have z2 : (S.s = 0) = False := by simpa using hz
            have hb : ¬ setOk L k (tt : Int) := fun hh => hz (by rw [HSS.out]; exact hh.2.2 tt rfl)
            have HBAD := Lib.hid hb
            clear hb hz
            go_wp2
            go_ret
            exact .inr ⟨HBAD.out, rfl, HC.out⟩
      · obtain rfl : T = -1 := by have := HT1.out; omega
        cases A with
        | true =>
          have hb : ¬ setOk L k (-1) := fun hh => by
            have := hh.2.1; rw [← HA.out] at this; simp at this
          have HBAD := Lib.hid hb
          clear hb hT
          go_wp2
          go_ret
          exact .inr ⟨HBAD.out, rfl, HC.out⟩
        | false =>
          have hs : setOk L k (-1) := ⟨HALL.out, by rw [← HA.out]; simp, fun t' ht' => by omega⟩
          have HS := Lib.hid hs
          clear hs hT
          go_wp2_with (at_builtin; refine wpList_append_win rfl _ _ 33 rfl 40 i0 (.agg (stL noSta).toArray) 35 144 Try.underlying33 hi0 hz0 hz1 hz2 rfl (.slice none 0 0) 0 [] rfl HWN.out ⟨sb, so, none⟩ k c (fl L k) rfl HFL.out HSRC.out HMEM.out (by have := H0.out; omega) (by have := HN.out; unfold maxLen; omega) (by have := HN.out; omega) ?_)
          intro v' W3 q1 q2 q3
          obtain ⟨p', c', rfl, w0, w1, w2, w3, g', o', c'', hwd, hgg, hch⟩ := GOOD.out v' W3 (by rw [Nat.zero_add]; exact q1) q2 q3
          have HWD := Lib.hid hwd
          have HGG := Lib.hid hgg
          have HCH := Lib.hid hch
          clear q1 q2 q3 hwd hgg hch
          go_wp2
          go_ret
          exact .inl ⟨HS.out, rfl, g', o', c'', HWD.out, HGG.out, HCH.out⟩
end Go.Proofs.L
