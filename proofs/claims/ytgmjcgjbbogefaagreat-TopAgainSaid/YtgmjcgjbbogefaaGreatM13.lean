/- Lemmas that the laws of this seat share, 4 texts in one: Forced, ForcedT, Cons, Clone. No condition of their own. -/
import Derived.Test.YtgmjcgjbbogefaaGreatM12
import Derived.OwnWalk
/- forced of package precedent. No condition but a right base of at most 2000 cases. -/
namespace Go.Proofs.YtgmjcgjbbogefaaGreat
open Go.RowKit Go.Maps
set_option linter.unusedSimpArgs false
set_option linter.unusedVariables false

theorem key_bool (x : Bool) : keyOf Tryz.prog 4 (.bool x) = some (.bool x) := keyOf_bool_mk Tryz.underlying4 x
/-- The sides that the first cases force. -/
noncomputable def sideF (D : List Dm) (L : List Cs) (l : List Int) : Lit → Bool
  | .bool s => sideB D L l s
  | _ => false
theorem sideF_next {D : List Dm} {B : List Cs} {l : List Int} {k : Nat} {c : Cs} (h : B[k]? = some c) (hf : forcesD D l c = true) (x : Lit) : putF (sideF D (B.take k) l) (.bool c.grant) true x = sideF D (B.take (k + 1)) l x := by
  by_cases hl : x = .bool c.grant
  · rw [hl, putF_same]
    simp [sideF, sideB_next _ h, hf]
  · rw [putF_other _ _ hl]
    cases x with
    | bool s =>
      have : (c.grant == s) = false := by
        have : ¬ c.grant = s := fun hc => hl (by rw [hc])
        simpa using this
      simp [sideF, sideB_next _ h, this]
    | _ => rfl
theorem sideF_stay {D : List Dm} {B : List Cs} {l : List Int} {k : Nat} {c : Cs} (h : B[k]? = some c) (hf : forcesD D l c = false) (x : Lit) : sideF D (B.take k) l x = sideF D (B.take (k + 1)) l x := by
  cases x with
  | bool s => simp [sideF, sideB_next _ h, hf]
  | _ => rfl
theorem MapB.mono {w : World} {k : TypeId} {b n n' : Nat} {f : Lit → Bool} (h : MapB w k b n f) (hn : n ≤ n') : MapB w k b n' f := by
  obtain ⟨D, h1, h2⟩ := h
  exact ⟨D, h1.mono hn, h2⟩
theorem MapB.ne_own {w : World} {k : TypeId} {b n : Nat} {f : Lit → Bool} {base s m : Nat} {e : TypeId} {v : Value} {xs : List Value} (h : MapB w k b n f) (ho : w.ownsRow base e s v m xs) : some b ≠ v.ownBlock := fun hc => by
  obtain ⟨c, hg⟩ := TypedBy.of_owns ho b hc.symm
  obtain ⟨D, ⟨es, clock, hb, _⟩, _⟩ := h
  rw [hg] at hb
  cases hb
theorem MapB.grown_ne {w : World} {k : TypeId} {b n : Nat} {f : Lit → Bool} {base s m : Nat} {e : TypeId} {v : Value} {xs : List Value} (h : MapB w k b n f) (ho : w.ownsRow base e s v m xs) : v.ownBlock = none ∨ v.ownBlock ≠ some b := by
  right
  exact fun hc => h.ne_own ho hc.symm
set_option maxRecDepth 100000
set_option maxHeartbeats 4000000
theorem forced33 {S S1 : Nat → Prop} (mo bo ao : Option Addr) (n1 mc n c na ca : Nat) (D : List Dm) (B : List Cs) (al : List Int) (w : World) (h : Ords w mo n1 mc D) (hb : Cases S w bo n c B) (ha : Ints S1 w ao na ca al) (hn : n ≤ 2000) (hv : ∀ c ∈ B, inD D c.vals = true) (hia : inD D al = true) :
    Calls Tryz.prog 28 #[.slice mo n1 mc, .slice bo n c, .slice ao na ca] w fun e w' => ∃ ro rc, e = .returned (.tuple #[.int .i64 (whatD D B al), .slice ro (byK D B al n).length rc]) ∧ Exts w w' ∧ Ints (fun b => w.heap.size ≤ b) w' ro (byK D B al n).length rc (byK D B al n) := by
  obtain ⟨i0, hi, hz0, hz1, hz2⟩ := info_parts info3
  have hmm := @run_makeMap Tryz.prog
  have hm := h.nle
  have hn12 := h.le12
  have hma := RowF.nle ha
  unfold maxLen at hm hma
  have HL := Lib.hid hb.1
  have H := Lib.hid h
  have HB := Lib.hid hb
  have HA := Lib.hid ha
  have HV := Lib.hid hv
  have HIA := Lib.hid hia
  clear h hb ha hv hia
  go_enter Tryz.func28, Tryz.ntmps28
  go_wp2
  go_loopw [8, 15] (fun o i wr => ∃ (k m : Nat), k ≤ n ∧ i = .int .i64 k ∧ (byK D B al k).length = m ∧ Exts w wr ∧ wr.ownsRow w.heap.size 3 1 o m (intsC (byK D B al k)) ∧ MapB wr 4 w.heap.size k (sideF D (B.take k) al)) (fun _ i _ => n - (intOf i).toNat)
  case atStart =>
    refine ⟨0, 0, by omega, rfl, rfl, (by repeat (first | exact Exts.refl _ | apply Exts.andR | apply Exts.alloc | apply Exts.wext | apply Exts.drew | apply Exts.drewN)), World.ownsRow_nil _ _ _ _, ?_⟩
    exact (MapB.made w 4).congr fun l => by cases l <;> rfl
  case round =>
    obtain ⟨k, m, hk, rfl, hmk, hx, hown, hmap⟩ := hrel
    have HX := Lib.hid hx
    have HBS := Lib.hid (show w.heap.size ≤ wr.heap.size from hx.below.size)
    have HO := Lib.hid hown
    have HMAP := Lib.hid hmap
    have HMK := Lib.hid hmk
    have lmap := hmap.lt
    have hmle := byK_len D B al k
    rw [hmk] at hmle
    obtain ⟨oo, oc, rfl⟩ := owns_shape hown
    clear hx hown hmap hmk
    by_cases hlt : k < n
    · obtain ⟨b, off, id, vs, gr, vo, vc, rfl, lb, hc, e0, e1, e2, hvs, hid⟩ := (HB.out.exts HX.out).get hlt
      have HC := Lib.hid hc
      have HVS := Lib.hid hvs
      have HIV := Lib.hid (show inD D vs = true from HV.out _ (List.mem_of_getElem? hc))
      have HA2 := Lib.hid (RowF.exts HA.out HX.out)
      have HOR := Lib.hid (H.out.exts HX.out)
      obtain ⟨ks, hks⟩ : ∃ ks, keepsD D ⟨id, vs, gr⟩ al = ks := ⟨_, rfl⟩
      obtain ⟨m', hm'⟩ : ∃ m', ks.length = m' := ⟨_, rfl⟩
      have HK := Lib.hid hks
      have HM := Lib.hid hm'
      have hfor : forcesD D al ⟨id, vs, gr⟩ = decide (m' = 0) := by
        unfold forcesD
        rw [hks, ← hm']
        cases ks <;> simp
      have hat := forI_of (D := D) (l := al) hc
      rw [hfor] at hat
      have HF := Lib.hid hfor
      have HAT := Lib.hid hat
      have HN := Lib.hid (byK_next D B al k)
      clear hc hvs hid hks hm' hfor hat
      by_cases h0 : m' = 0
      · have q1 : ((m' : Int) == 0) = true := by simp; omega
        have q2 : (m' == 0) = true := by simpa using h0
        have HE := Lib.hid (show byK D B al (k + 1) = byK D B al k ++ [(k : Int)] by rw [HN.out, HAT.out, h0]; rfl)
        have HFT := Lib.hid (show forcesD D al ⟨id, vs, gr⟩ = true by rw [HF.out, h0]; rfl)
        clear h0
        go_wp2_with (first | (go_at_call 32; ((with_reducible refine (keeps43 _ _ _ _ _ _ _ _ _ D id vs al gr ks m' _ (HOR.out.exts (by repeat (first | exact Exts.refl _ | apply Exts.andR | apply Exts.alloc | apply Exts.wext | apply Exts.drew | apply Exts.drewN))) (RowF.exts HVS.out (by repeat (first | exact Exts.refl _ | apply Exts.andR | apply Exts.alloc | apply Exts.wext | apply Exts.drew | apply Exts.drewN))) (RowF.exts HA2.out (by repeat (first | exact Exts.refl _ | apply Exts.andR | apply Exts.alloc | apply Exts.wext | apply Exts.drew | apply Exts.drewN))) HIV.out HIA.out HK.out HM.out).mono ?_); rintro e w' ⟨ro, rc, rfl, ⟨x2, rfl⟩, hks⟩; clear hks)) | (at_builtin; refine wpList_append_lies _ rfl (.tmp 26) (.tmp 28) 24 rfl w.heap.size 3 i0 _ 1 8 Tryz.underlying24 hi hz0 hz1 hz2 rfl (by decide) (.slice oo m oc) m (intsC (byK D B al k)) rfl (ownsRow_exts HO.out (by repeat (first | exact Exts.refl _ | apply Exts.andR | apply Exts.alloc | apply Exts.wext | apply Exts.drew | apply Exts.drewN))) ⟨_, 0, none⟩ 1 1 [.int .i64 k] rfl rfl (by intro j u hj; match j, hj with | 0, hj => (simp at hj; subst hj; simp [go_sem])) (int_one _) (by decide) (by unfold maxLen; omega) (by omega) (by have := HBS.out; simp; omega) _ rfl ?_; intro g2 cg w9 hown' hgrow hat hlt'; (have c9 : w9.cell? ⟨wr.heap.size, 2, none⟩ = some (.bool gr) := (World.cell?_of_block (hgrow.block wr.heap.size (by simp; omega) (fun hc => by have := (HO.out.lt _ hc.symm).2; omega))).trans (by simp [go_sem])); (have HM9 := Lib.hid ((HMAP.out.exts (by repeat (first | exact Exts.refl _ | apply Exts.andR | apply Exts.alloc | apply Exts.wext | apply Exts.drew | apply Exts.drewN))).kept hgrow (HMAP.out.ne_own HO.out))); (have HO9 := Lib.hid hown'); (have HG9 := Lib.hid hgrow); (have l9 : wr.heap.size < w9.heap.size := by have := hgrow.size; simp at this; omega); clear hgrow hown' hat) | (at_mapUpdate; refine mapB_update rfl _ _ _ 120 4 rfl lawB Tryz.underlying120 w.heap.size k _ rfl HM9.out (by unfold maxLen; omega) _ _ _ rfl rfl (key_bool _) (isKey_bool _) ?_; intro w10 hmap' hgrow2))
        refine ⟨⟨k + 1, m + 1, by omega, by go_num, by rw [HE.out, List.length_append, HMK.out]; rfl, exts_of_grown (W := w) (exts_of_grown (W := w) (HX.out.trans (by repeat (first | exact Exts.refl _ | apply Exts.andR | apply Exts.alloc | apply Exts.wext | apply Exts.drew | apply Exts.drewN))) HG9.out (fun b hb => owns_base HO.out hb)) hgrow2 (fun b hb => by cases hb; exact Nat.le_refl _), by rw [HE.out, intsC_snoc]; exact HO9.out.kept hgrow2 (HM9.out.grown_ne HO9.out), hmap'.congr (sideF_next HC.out HFT.out)⟩, ?_⟩
        simp [intOf]; omega
      · have q1 : ((m' : Int) == 0) = false := by simp; omega
        have q2 : (m' == 0) = false := by simpa using h0
        have HE := Lib.hid (show byK D B al (k + 1) = byK D B al k by rw [HN.out, HAT.out]; simp [h0])
        have HFF := Lib.hid (show forcesD D al ⟨id, vs, gr⟩ = false by rw [HF.out]; simp [h0])
        clear h0
        go_wp2_with (first | (go_at_call 32; ((with_reducible refine (keeps43 _ _ _ _ _ _ _ _ _ D id vs al gr ks m' _ (HOR.out.exts (by repeat (first | exact Exts.refl _ | apply Exts.andR | apply Exts.alloc | apply Exts.wext | apply Exts.drew | apply Exts.drewN))) (RowF.exts HVS.out (by repeat (first | exact Exts.refl _ | apply Exts.andR | apply Exts.alloc | apply Exts.wext | apply Exts.drew | apply Exts.drewN))) (RowF.exts HA2.out (by repeat (first | exact Exts.refl _ | apply Exts.andR | apply Exts.alloc | apply Exts.wext | apply Exts.drew | apply Exts.drewN))) HIV.out HIA.out HK.out HM.out).mono ?_); rintro e w' ⟨ro, rc, rfl, ⟨x2, rfl⟩, hks⟩; clear hks)))
        refine ⟨⟨k + 1, m, by omega, by go_num, by rw [HE.out]; exact HMK.out, HX.out.trans (by repeat (first | exact Exts.refl _ | apply Exts.andR | apply Exts.alloc | apply Exts.wext | apply Exts.drew | apply Exts.drewN)), by rw [HE.out]; exact ownsRow_exts HO.out (by repeat (first | exact Exts.refl _ | apply Exts.andR | apply Exts.alloc | apply Exts.wext | apply Exts.drew | apply Exts.drewN)), ((HMAP.out.exts (by repeat (first | exact Exts.refl _ | apply Exts.andR | apply Exts.alloc | apply Exts.wext | apply Exts.drew | apply Exts.drewN))).mono (Nat.le_succ _)).congr (sideF_stay HC.out HFF.out)⟩, ?_⟩
        simp [intOf]; omega
    · obtain rfl : k = n := by omega
      have htk : B.take k = B := List.take_of_length_le (by rw [HL.out]; exact Nat.le_refl _)
      have HS := HMAP.out
      rw [htk] at HS
      have HS2 := Lib.hid HS
      obtain ⟨st, hst⟩ : ∃ st, sideB D B al true = st := ⟨_, rfl⟩
      obtain ⟨sf, hsf⟩ : ∃ sf, sideB D B al false = sf := ⟨_, rfl⟩
      have hT : ∀ w', Exts wr w' → (Instr.lookup 120 (.map (some w.heap.size)) (.bool true) false).run Tryz.prog w' = .ok (.bool st) w' := fun w' he => by
        rw [← hst]
        exact (HS2.out.exts he).look lawB Tryz.underlying120 (key_bool true)
      have hF : ∀ w', Exts wr w' → (Instr.lookup 120 (.map (some w.heap.size)) (.bool false) false).run Tryz.prog w' = .ok (.bool sf) w' := fun w' he => by
        rw [← hsf]
        exact (HS2.out.exts he).look lawB Tryz.underlying120 (key_bool false)
      have HST := Lib.hid hst
      have HSF := Lib.hid hsf
      have HWH := Lib.hid (show whatD D B al = (if st = true then (if sf = true then 3 else 1) else (if sf = true then 2 else 0)) by unfold whatD; rw [hst, hsf])
      clear htk HS hst hsf
      cases st <;> cases sf
      · have HNIL := Lib.hid (show byK D B al k = [] by have := by_nil HST.out HSF.out; rw [HL.out] at this; exact this)
        go_wp2
        go_ret2
        exact ⟨none, 0, by rw [HWH.out, HNIL.out]; rfl, HX.out.trans (by repeat (first | exact Exts.refl _ | apply Exts.andR | apply Exts.alloc | apply Exts.wext | apply Exts.drew | apply Exts.drewN)), by rw [HNIL.out]; exact RowF.nil _ _ _⟩
      all_goals
        go_wp2
        go_ret2
        exact ⟨oo, oc, by rw [HWH.out, HMK.out]; rfl, HX.out.trans (by repeat (first | exact Exts.refl _ | apply Exts.andR | apply Exts.alloc | apply Exts.wext | apply Exts.drew | apply Exts.drewN)), by rw [HMK.out]; exact RowF.of_owns (ownsRow_exts HO.out (by repeat (first | exact Exts.refl _ | apply Exts.andR | apply Exts.alloc | apply Exts.wext | apply Exts.drew | apply Exts.drewN)))⟩
end Go.Proofs.YtgmjcgjbbogefaaGreat


/- Forced of package precedent, and of the reference; Right. No condition but at most 2000 cases. -/
namespace Go.Proofs.YtgmjcgjbbogefaaGreat
open Go.RowKit Go.Maps
set_option linter.unusedSimpArgs false
set_option linter.unusedVariables false

noncomputable def forD (D : List Dm) (B : List Cs) (al : List Int) : Int × List Int × Int := if (checkD D B && inD D al) = true then (whatD D B al, byK D B al B.length, 0) else (0, [], 1)
theorem check31_ok {S S1 : Nat → Prop} (lo bo : Option Addr) (n1 c1 n c : Nat) (D : List Dm) (B : List Cs) (w : World) (hd : Dims S w lo n1 c1 D) (hb : Cases S1 w bo n c B) (hn : n ≤ 2000) (hr : checkD D B = true) :
    Calls Tryz.prog 13 #[.slice lo n1 c1, .slice bo n c] w fun e w' => ∃ mo mc, e = .returned (.tuple #[.slice mo n1 mc, .bool true]) ∧ Exts w w' ∧ Ords w' mo n1 mc D := by
  refine (check31 lo bo n1 c1 n c D B true w hd hb hn hr).mono ?_
  rintro e w' ⟨mo, N, mc, rfl, hx, hm⟩
  obtain ⟨rfl, h⟩ := hm rfl
  exact ⟨mo, mc, rfl, hx, h⟩
theorem check_vecs {D : List Dm} {B : List Cs} (h : checkD D B = true) : ∀ c ∈ B, inD D c.vals = true := by
  simp only [checkD, Bool.and_eq_true, List.all_eq_true] at h
  exact h.2.1
theorem check_right {D : List Dm} {B : List Cs} (h : checkD D B = true) : rightD D = true := by
  simp only [checkD, Bool.and_eq_true] at h
  exact h.1
theorem forced33_D {S S1 : Nat → Prop} (mo bo ao : Option Addr) (n1 mc n c na ca : Nat) (D : List Dm) (B : List Cs) (al : List Int) (wh : Int) (by' : List Int) (bm : Nat) (w : World) (h : Ords w mo n1 mc D) (hb : Cases S w bo n c B) (ha : Ints S1 w ao na ca al) (hn : n ≤ 2000) (hv : ∀ c ∈ B, inD D c.vals = true) (hia : inD D al = true) (hw : whatD D B al = wh) (hby : byK D B al n = by') (hbm : by'.length = bm) :
    Calls Tryz.prog 28 #[.slice mo n1 mc, .slice bo n c, .slice ao na ca] w fun e w' => ∃ ro rc, e = .returned (.tuple #[.int .i64 wh, .slice ro bm rc]) ∧ Exts w w' ∧ Ints (fun b => w.heap.size ≤ b) w' ro bm rc by' := by
  subst hw hby hbm
  exact forced33 mo bo ao n1 mc n c na ca D B al w h hb ha hn hv hia
set_option maxRecDepth 100000
set_option maxHeartbeats 2000000
theorem forced11 {S S1 S2 : Nat → Prop} (lo bo ao : Option Addr) (n1 c1 n c na ca : Nat) (D : List Dm) (B : List Cs) (al : List Int) (w : World) (hd : Dims S w lo n1 c1 D) (hb : Cases S1 w bo n c B) (ha : Ints S2 w ao na ca al) (hn : n ≤ 2000) :
    Calls Tryz.prog 17 #[.slice lo n1 c1, .slice bo n c, .slice ao na ca] w fun e w' => ∃ ro rc, e = .returned (.tuple #[.int .i64 (forD D B al).1, .slice ro (forD D B al).2.1.length rc, .int .i64 (forD D B al).2.2]) ∧ Exts w w' ∧ Ints (fun b => w.heap.size ≤ b) w' ro (forD D B al).2.1.length rc (forD D B al).2.1 := by
  have HL := Lib.hid hb.1
  have HD := Lib.hid hd
  have HB := Lib.hid hb
  have HA := Lib.hid ha
  clear hd hb ha
  cases hck : checkD D B with
  | false =>
    have HCK := Lib.hid hck
    have HR := Lib.hid (show forD D B al = (0, [], 1) by unfold forD; rw [hck]; rfl)
    clear hck
    go_enter Tryz.func17, Tryz.ntmps17
    go_wp2_with (first | (go_at_call 13; ((with_reducible refine (check31 _ _ _ _ _ _ D B _ _ (HD.out.exts (by repeat (first | exact Exts.refl _ | apply Exts.andR | apply Exts.alloc | apply Exts.wext | apply Exts.drew | apply Exts.drewN))) (HB.out.exts (by repeat (first | exact Exts.refl _ | apply Exts.andR | apply Exts.alloc | apply Exts.wext | apply Exts.drew | apply Exts.drewN))) hn HCK.out).mono ?_); rintro e w' ⟨mo, N, mc, rfl, ⟨x1, rfl⟩, hm⟩; (try simp only [wext_and] at hm); (have HM := Lib.hid hm); clear hm)))
    go_ret3
    exact ⟨none, 0, by rw [HR.out]; rfl, (by repeat (first | exact Exts.refl _ | apply Exts.andR | apply Exts.alloc | apply Exts.wext | apply Exts.drew | apply Exts.drewN)), by rw [HR.out]; exact RowF.nil _ _ _⟩
  | true =>
    have HCK := Lib.hid hck
    have HV := Lib.hid (check_vecs hck)
    cases hin : inD D al with
    | false =>
      have HIN := Lib.hid hin
      have HR := Lib.hid (show forD D B al = (0, [], 1) by unfold forD; rw [hck, hin]; rfl)
      clear hck hin
      go_enter Tryz.func17, Tryz.ntmps17
      go_wp2_with (first | (go_at_call 13; ((with_reducible refine (check31_ok _ _ _ _ _ _ D B _ (HD.out.exts (by repeat (first | exact Exts.refl _ | apply Exts.andR | apply Exts.alloc | apply Exts.wext | apply Exts.drew | apply Exts.drewN))) (HB.out.exts (by repeat (first | exact Exts.refl _ | apply Exts.andR | apply Exts.alloc | apply Exts.wext | apply Exts.drew | apply Exts.drewN))) hn HCK.out).mono ?_); rintro e w' ⟨mo, mc, rfl, ⟨x1, rfl⟩, hm⟩; (try simp only [wext_and] at hm); (have HM := Lib.hid hm); clear hm)) | (go_at_call 27; ((with_reducible refine (isVector32_D _ _ _ _ _ _ D al _ _ (HM.out.exts (by repeat (first | exact Exts.refl _ | apply Exts.andR | apply Exts.alloc | apply Exts.wext | apply Exts.drew | apply Exts.drewN))) (RowF.exts HA.out (by repeat (first | exact Exts.refl _ | apply Exts.andR | apply Exts.alloc | apply Exts.wext | apply Exts.drew | apply Exts.drewN))) HIN.out).mono ?_); rintro e w' ⟨rfl, x2, rfl⟩)))
      go_ret3
      exact ⟨none, 0, by rw [HR.out]; rfl, (by repeat (first | exact Exts.refl _ | apply Exts.andR | apply Exts.alloc | apply Exts.wext | apply Exts.drew | apply Exts.drewN)), by rw [HR.out]; exact RowF.nil _ _ _⟩
    | true =>
      have HIN := Lib.hid hin
      obtain ⟨wh, hwh⟩ : ∃ wh, whatD D B al = wh := ⟨_, rfl⟩
      obtain ⟨by', hby⟩ : ∃ b, byK D B al n = b := ⟨_, rfl⟩
      obtain ⟨bm, hbm⟩ : ∃ b, by'.length = b := ⟨_, rfl⟩
      have HR := Lib.hid (show forD D B al = (wh, by', 0) by unfold forD; rw [hck, hin, hwh, HL.out, hby]; rfl)
      have HWH := Lib.hid hwh
      have HBY := Lib.hid hby
      have HBM := Lib.hid hbm
      clear hck hin hwh hby hbm
      go_enter Tryz.func17, Tryz.ntmps17
      go_wp2_with (first | (go_at_call 13; ((with_reducible refine (check31_ok _ _ _ _ _ _ D B _ (HD.out.exts (by repeat (first | exact Exts.refl _ | apply Exts.andR | apply Exts.alloc | apply Exts.wext | apply Exts.drew | apply Exts.drewN))) (HB.out.exts (by repeat (first | exact Exts.refl _ | apply Exts.andR | apply Exts.alloc | apply Exts.wext | apply Exts.drew | apply Exts.drewN))) hn HCK.out).mono ?_); rintro e w' ⟨mo, mc, rfl, ⟨x1, rfl⟩, hm⟩; (try simp only [wext_and] at hm); (have HM := Lib.hid hm); clear hm)) | (go_at_call 27; ((with_reducible refine (isVector32_D _ _ _ _ _ _ D al _ _ (HM.out.exts (by repeat (first | exact Exts.refl _ | apply Exts.andR | apply Exts.alloc | apply Exts.wext | apply Exts.drew | apply Exts.drewN))) (RowF.exts HA.out (by repeat (first | exact Exts.refl _ | apply Exts.andR | apply Exts.alloc | apply Exts.wext | apply Exts.drew | apply Exts.drewN))) HIN.out).mono ?_); rintro e w' ⟨rfl, x2, rfl⟩)) | (go_at_call 28; ((with_reducible refine (forced33_D _ _ _ _ _ _ _ _ _ D B al wh by' bm _ (HM.out.exts (by repeat (first | exact Exts.refl _ | apply Exts.andR | apply Exts.alloc | apply Exts.wext | apply Exts.drew | apply Exts.drewN))) (HB.out.exts (by repeat (first | exact Exts.refl _ | apply Exts.andR | apply Exts.alloc | apply Exts.wext | apply Exts.drew | apply Exts.drewN))) (RowF.exts HA.out (by repeat (first | exact Exts.refl _ | apply Exts.andR | apply Exts.alloc | apply Exts.wext | apply Exts.drew | apply Exts.drewN))) hn HV.out HIN.out HWH.out HBY.out HBM.out).mono ?_); rintro e w' ⟨ro, rc, rfl, ⟨x3, rfl⟩, hby⟩; (try simp only [wext_and] at hby); (have HBR := Lib.hid hby); clear hby)))
      go_ret3
      exact ⟨ro, rc, by rw [HR.out, ← HBM.out]; rfl, (by repeat (first | exact Exts.refl _ | apply Exts.andR | apply Exts.alloc | apply Exts.wext | apply Exts.drew | apply Exts.drewN)), by rw [HR.out, HBM.out]; exact (RowF.exts HBR.out (by repeat (first | exact Exts.refl _ | apply Exts.andR | apply Exts.alloc | apply Exts.wext | apply Exts.drew | apply Exts.drewN))).up (by simp <;> omega)⟩
end Go.Proofs.YtgmjcgjbbogefaaGreat


/- Consistent of package precedent. No condition but at most 2000 cases. -/
namespace Go.Proofs.YtgmjcgjbbogefaaGreat
open Go.RowKit Go.Maps
set_option linter.unusedSimpArgs false
set_option linter.unusedVariables false

noncomputable def hitI (D : List Dm) (B : List Cs) (vs : List Int) (k : Nat) : Bool := match B[k]? with | some d => !d.grant && (blkD D vs d.vals).isEmpty | none => false
noncomputable def hitF (D : List Dm) (B : List Cs) (vs : List Int) : Option Nat := (List.range B.length).find? (hitI D B vs)
def outI (o : Option Nat) : Int := match o with | some k => (k : Int) | none => -1
theorem hitI_of {D : List Dm} {B : List Cs} {vs : List Int} {k : Nat} {d : Cs} (h : B[k]? = some d) : hitI D B vs k = (!d.grant && (blkD D vs d.vals).isEmpty) := by
  unfold hitI
  rw [h]
set_option maxRecDepth 100000
set_option maxHeartbeats 2000000
theorem con38 {S S1 : Nat → Prop} (mb cb : Nat) (mo vo dso : Option Addr) (n1 mc vn vc dn dc : Nat) (D : List Dm) (id : Int) (vs ds : List Int) (gr : Bool) (r : Bool) (w : World) (h : Ords w mo n1 mc D) (hvs : Ints S w vo vn vc vs) (hds : Ints S1 w dso dn dc ds) (hiv : inD D vs = true) (hid : inD D ds = true) (cm : w.cell? ⟨mb, 0, none⟩ = some (.slice mo n1 mc)) (cc : w.cell? ⟨cb, 1, none⟩ = some (.slice vo vn vc)) (hr : (!gr && (blkD D vs ds).isEmpty) = r) :
    Calls Tryz.prog 15 #[.agg #[.int .i64 id, .slice dso dn dc, .bool gr], .pointer (some ⟨mb, 0, none⟩), .pointer (some ⟨cb, 0, none⟩)] w fun e w' => e = .returned (.bool r) ∧ Exts w w' := by
  have lm : mb < w.heap.size := World.block_lt_of_cell? w _ cm
  have lc : cb < w.heap.size := World.block_lt_of_cell? w _ cc
  have HOR := Lib.hid h
  have HVS := Lib.hid hvs
  have HDS := Lib.hid hds
  have HIV := Lib.hid hiv
  have HID := Lib.hid hid
  obtain ⟨ks, hks⟩ : ∃ ks, blkD D vs ds = ks := ⟨_, rfl⟩
  obtain ⟨m', hm'⟩ : ∃ m', ks.length = m' := ⟨_, rfl⟩
  have HK := Lib.hid hks
  have HM := Lib.hid hm'
  rw [hks, show ks.isEmpty = decide (m' = 0) by rw [← hm']; cases ks <;> simp] at hr
  have HR := Lib.hid hr
  clear h hvs hds hiv hid hks hm' hr
  cases gr with
  | true =>
    go_enter Tryz.func15, Tryz.ntmps15
    go_wp2_with (first | (go_at_call 16; ((with_reducible refine (blocks39_N _ _ _ _ _ _ _ _ _ D vs ds ks m' _ (HOR.out.exts (by repeat (first | exact Exts.refl _ | apply Exts.andR | apply Exts.alloc | apply Exts.wext | apply Exts.drew | apply Exts.drewN))) (RowF.exts HVS.out (by repeat (first | exact Exts.refl _ | apply Exts.andR | apply Exts.alloc | apply Exts.wext | apply Exts.drew | apply Exts.drewN))) (RowF.exts HDS.out (by repeat (first | exact Exts.refl _ | apply Exts.andR | apply Exts.alloc | apply Exts.wext | apply Exts.drew | apply Exts.drewN))) HIV.out HID.out HK.out HM.out).mono ?_); rintro e w' ⟨ro, rc, rfl, ⟨x2, rfl⟩, hks⟩; clear hks)))
    go_ret
    exact ⟨by rw [← HR.out]; rfl, (by repeat (first | exact Exts.refl _ | apply Exts.andR | apply Exts.alloc | apply Exts.wext | apply Exts.drew | apply Exts.drewN))⟩
  | false =>
    by_cases h0 : m' = 0
    · have q1 : ((m' : Int) == 0) = true := by simp; omega
      have q2 : (m' == 0) = true := by simpa using h0
      have HR2 := Lib.hid (show r = true by rw [← HR.out, h0]; rfl)
      clear h0
      go_enter Tryz.func15, Tryz.ntmps15
      go_wp2_with (first | (go_at_call 16; ((with_reducible refine (blocks39_N _ _ _ _ _ _ _ _ _ D vs ds ks m' _ (HOR.out.exts (by repeat (first | exact Exts.refl _ | apply Exts.andR | apply Exts.alloc | apply Exts.wext | apply Exts.drew | apply Exts.drewN))) (RowF.exts HVS.out (by repeat (first | exact Exts.refl _ | apply Exts.andR | apply Exts.alloc | apply Exts.wext | apply Exts.drew | apply Exts.drewN))) (RowF.exts HDS.out (by repeat (first | exact Exts.refl _ | apply Exts.andR | apply Exts.alloc | apply Exts.wext | apply Exts.drew | apply Exts.drewN))) HIV.out HID.out HK.out HM.out).mono ?_); rintro e w' ⟨ro, rc, rfl, ⟨x2, rfl⟩, hks⟩; clear hks)))
      go_ret
      exact ⟨by rw [HR2.out]; rfl, (by repeat (first | exact Exts.refl _ | apply Exts.andR | apply Exts.alloc | apply Exts.wext | apply Exts.drew | apply Exts.drewN))⟩
    · have q1 : ((m' : Int) == 0) = false := by simp; omega
      have q2 : (m' == 0) = false := by simpa using h0
      have HR2 := Lib.hid (show r = false by rw [← HR.out]; simp [h0])
      clear h0
      go_enter Tryz.func15, Tryz.ntmps15
      go_wp2_with (first | (go_at_call 16; ((with_reducible refine (blocks39_N _ _ _ _ _ _ _ _ _ D vs ds ks m' _ (HOR.out.exts (by repeat (first | exact Exts.refl _ | apply Exts.andR | apply Exts.alloc | apply Exts.wext | apply Exts.drew | apply Exts.drewN))) (RowF.exts HVS.out (by repeat (first | exact Exts.refl _ | apply Exts.andR | apply Exts.alloc | apply Exts.wext | apply Exts.drew | apply Exts.drewN))) (RowF.exts HDS.out (by repeat (first | exact Exts.refl _ | apply Exts.andR | apply Exts.alloc | apply Exts.wext | apply Exts.drew | apply Exts.drewN))) HIV.out HID.out HK.out HM.out).mono ?_); rintro e w' ⟨ro, rc, rfl, ⟨x2, rfl⟩, hks⟩; clear hks)))
      go_ret
      exact ⟨by rw [HR2.out]; rfl, (by repeat (first | exact Exts.refl _ | apply Exts.andR | apply Exts.alloc | apply Exts.wext | apply Exts.drew | apply Exts.drewN))⟩
theorem find_range' {p : Nat → Bool} {n k : Nat} (hk : k < n) (h1 : ∀ i, i < k → p i = false) (h2 : p k = true) : (List.range n).find? p = some k := by
  rw [List.find?_eq_some_iff_getElem]
  refine ⟨h2, k, by simpa using hk, by simp, fun j hj => ?_⟩
  rw [List.getElem_range, h1 j hj]
  rfl
theorem index37 {S S1 : Nat → Prop} (mb cb : Nat) (mo vo bo : Option Addr) (n1 mc vn vc n c : Nat) (D : List Dm) (B : List Cs) (vs : List Int) (w : World) (h : Ords w mo n1 mc D) (hvs : Ints S w vo vn vc vs) (hb : Cases S1 w bo n c B) (hv : ∀ c ∈ B, inD D c.vals = true) (hiv : inD D vs = true) (cm : w.cell? ⟨mb, 0, none⟩ = some (.slice mo n1 mc)) (cc : w.cell? ⟨cb, 1, none⟩ = some (.slice vo vn vc)) :
    Calls Tryz.prog 14 #[.slice bo n c, .func (.func 15) #[] #[.pointer (some ⟨mb, 0, none⟩), .pointer (some ⟨cb, 0, none⟩)]] w fun e w' => e = .returned (.int .i64 (outI (hitF D B vs))) ∧ Exts w w' := by
  have hm := hb.nle
  unfold maxLen at hm
  have lm : mb < w.heap.size := World.block_lt_of_cell? w _ cm
  have lc : cb < w.heap.size := World.block_lt_of_cell? w _ cc
  have HL := Lib.hid hb.1
  have H := Lib.hid h
  have HB := Lib.hid hb
  have HVS := Lib.hid hvs
  have HV := Lib.hid hv
  have HIV := Lib.hid hiv
  have CM := Lib.hid cm
  have CC := Lib.hid cc
  clear h hb hvs hv hiv
  go_enter Tryz.func14, Tryz.ntmps14
  go_wp2
  go_loopw [8] (fun i wr => ∃ (k : Nat), k ≤ n ∧ i = .int .i64 k ∧ Exts w wr ∧ ∀ j, j < k → hitI D B vs j = false) (fun i _ => n - (intOf i).toNat)
  case atStart => exact ⟨0, by omega, rfl, Exts.refl _, fun j hj => by omega⟩
  case round =>
    obtain ⟨k, hk, rfl, ⟨x, rfl⟩, hin⟩ := hrel
    have HI := Lib.hid hin
    clear hin
    by_cases hlt : k < n
    · obtain ⟨b, off, id, ds, gr, vo2, vc2, rfl, lb, hc, e0, e1, e2, hds, hid⟩ := HB.out.get hlt
      have HDS := Lib.hid hds
      have HC := Lib.hid hc
      have HIV2 := Lib.hid (show inD D ds = true from HV.out _ (List.mem_of_getElem? hc))
      obtain ⟨r, hr⟩ : ∃ r, (!gr && (blkD D vs ds).isEmpty) = r := ⟨_, rfl⟩
      have HH := Lib.hid (show hitI D B vs k = r by rw [hitI_of hc]; exact hr)
      have HR := Lib.hid hr
      clear hds hc hid hr
      cases r with
      | true =>
        have HO := Lib.hid (show hitF D B vs = some k from find_range' (by rw [HL.out]; exact hlt) HI.out HH.out)
        go_wp2_with (first | (go_at_call 15; ((with_reducible refine (con38 _ _ _ _ _ _ _ _ _ _ _ D _ vs ds _ _ _ (H.out.exts (by repeat (first | exact Exts.refl _ | apply Exts.andR | apply Exts.alloc | apply Exts.wext | apply Exts.drew | apply Exts.drewN))) (RowF.exts HVS.out (by repeat (first | exact Exts.refl _ | apply Exts.andR | apply Exts.alloc | apply Exts.wext | apply Exts.drew | apply Exts.drewN))) (RowF.exts HDS.out (by repeat (first | exact Exts.refl _ | apply Exts.andR | apply Exts.alloc | apply Exts.wext | apply Exts.drew | apply Exts.drewN))) HIV.out HIV2.out (Exts.cell (by repeat (first | exact Exts.refl _ | apply Exts.andR | apply Exts.alloc | apply Exts.wext | apply Exts.drew | apply Exts.drewN)) CM.out) (Exts.cell (by repeat (first | exact Exts.refl _ | apply Exts.andR | apply Exts.alloc | apply Exts.wext | apply Exts.drew | apply Exts.drewN)) CC.out) HR.out).mono ?_); rintro e w' ⟨rfl, x2, rfl⟩)))
        go_ret
        exact ⟨by rw [HO.out]; rfl, (by repeat (first | exact Exts.refl _ | apply Exts.andR | apply Exts.alloc | apply Exts.wext | apply Exts.drew | apply Exts.drewN))⟩
      | false =>
        go_wp2_with (first | (go_at_call 15; ((with_reducible refine (con38 _ _ _ _ _ _ _ _ _ _ _ D _ vs ds _ _ _ (H.out.exts (by repeat (first | exact Exts.refl _ | apply Exts.andR | apply Exts.alloc | apply Exts.wext | apply Exts.drew | apply Exts.drewN))) (RowF.exts HVS.out (by repeat (first | exact Exts.refl _ | apply Exts.andR | apply Exts.alloc | apply Exts.wext | apply Exts.drew | apply Exts.drewN))) (RowF.exts HDS.out (by repeat (first | exact Exts.refl _ | apply Exts.andR | apply Exts.alloc | apply Exts.wext | apply Exts.drew | apply Exts.drewN))) HIV.out HIV2.out (Exts.cell (by repeat (first | exact Exts.refl _ | apply Exts.andR | apply Exts.alloc | apply Exts.wext | apply Exts.drew | apply Exts.drewN)) CM.out) (Exts.cell (by repeat (first | exact Exts.refl _ | apply Exts.andR | apply Exts.alloc | apply Exts.wext | apply Exts.drew | apply Exts.drewN)) CC.out) HR.out).mono ?_); rintro e w' ⟨rfl, x2, rfl⟩)))
        refine ⟨⟨k + 1, by omega, by go_num, (by repeat (first | exact Exts.refl _ | apply Exts.andR | apply Exts.alloc | apply Exts.wext | apply Exts.drew | apply Exts.drewN)), fun j hj => ?_⟩, ?_⟩
        · by_cases hjk : j = k
          · rw [hjk]; exact HH.out
          · exact HI.out j (by omega)
        · simp [intOf]; omega
    · obtain rfl : k = n := by omega
      have HO := Lib.hid (show hitF D B vs = none by
        unfold hitF
        rw [List.find?_eq_none]
        intro j hj
        rw [HI.out j (by have := List.mem_range.1 hj; rw [HL.out] at this; exact this)]
        simp)
      go_wp2
      go_ret
      exact ⟨by rw [HO.out]; rfl, (by repeat (first | exact Exts.refl _ | apply Exts.andR | apply Exts.alloc | apply Exts.wext | apply Exts.drew | apply Exts.drewN))⟩
end Go.Proofs.YtgmjcgjbbogefaaGreat


/- clone of package precedent; ContainsFunc over its closure. No condition. -/
namespace Go.Proofs.YtgmjcgjbbogefaaGreat
open Go.RowKit Go.Maps
set_option linter.unusedSimpArgs false
set_option linter.unusedVariables false

set_option maxHeartbeats 400000 in
theorem clone56 (v : Value) (n : Nat) (xs : List Value) (w : World) {S : Nat → Prop} (h : RowF S 1 w v n xs) (h1 : ∀ u ∈ xs, u.oneCell' = true) (hb : n * 8 ≤ 140737488355328) :
    Calls Tryz.prog 20 #[v] w fun e w' => ∃ ao' c', e = .returned (.slice ao' n c') ∧ Exts w w' ∧ RowF (fun b => w.heap.size ≤ b) 1 w' (.slice ao' n c') n xs ∧ TypedBy 3 w' (.slice ao' n c') := by
  obtain ⟨i0, hi, hz0, hz1, hz2⟩ := info_parts info3
  have hnle := h.nle
  have hlen := h.len
  obtain ⟨_, ao, cap, rfl, h2, h3, h4, h5⟩ := id h
  cases ao with
  | none =>
    have hc := h4 rfl
    subst hc
    obtain rfl : n = 0 := by omega
    obtain rfl : xs = [] := List.eq_nil_of_length_eq_zero (by simpa using hlen)
    have e := fun w => Lib.run_eql_slice_nil (P := Tryz.prog) w 24 3 none 0 0 0 0 Tryz.underlying24
    go_enter Tryz.func20, Tryz.ntmps20
    go_wp2
    go_ret
    exact ⟨none, 0, rfl, Exts.refl _, RowF.nil _ 1 w, fun b hb => by cases hb⟩
  | some a =>
    have e := fun w => Lib.run_eql_slice_nil (P := Tryz.prog) w 24 3 (some a) n cap 0 0 Tryz.underlying24
    have hx : ∀ j u, xs[j]? = some u → (w.alloc (.cells #[] 3)).cell? (a.add j) = some u := by
      intro j u hj
      have hn : 0 < n := by
        have := (List.getElem?_eq_some_iff.1 hj).1
        rw [hlen] at this
        exact Nat.pos_of_ne_zero (fun h0 => by subst h0; simp at this)
      obtain ⟨b, off, hab, _, hbs, hc⟩ := h5 hn
      cases hab
      rw [Addr.add_lit, World.cell?_alloc_lt _ _ _ hbs]
      exact hc j u hj
    clear h2 h3 h4 h5 h
    unfold maxLen at hnle
    go_enter Tryz.func20, Tryz.ntmps20
    go_wp2_with (at_builtin; refine wpList_append_own _ rfl _ _ 24 rfl w.heap.size 3 i0 _ 1 8 Tryz.underlying24 hi hz0 hz1 hz2 rfl (by decide) _ 0 [] rfl (World.ownsRow_made w #[] 0 (Nat.le_refl _) (by decide) rfl) a n cap xs rfl hlen hx h1 (by unfold maxLen; omega) (by omega) (by simp) ?_; intro v' w1 hown hgrow hnil)
    go_ret
    simp only [Nat.zero_add, List.nil_append] at hown
    have hrow := RowF.of_owns hown
    obtain ⟨_, ao', c', rfl, _⟩ := id hrow
    exact ⟨ao', c', rfl, exts_of_grown ((Exts.refl w).alloc _) hgrow (fun b hb => by cases hb; exact Nat.le_refl _), hrow, TypedBy.of_owns hown⟩
theorem heap_two (w : World) (o1 o2 : Obj) (x : Ex) (b : Nat) : (wext ((w.alloc o1).alloc o2) x).heap[b]? = if b < w.heap.size then w.heap[b]? else if b = w.heap.size then some o1 else if b = w.heap.size + 1 then some o2 else x.bs[b - (w.heap.size + 2)]? := by
  by_cases h : b < ((w.alloc o1).alloc o2).heap.size
  · rw [wext_heap_old _ _ _ h, heap_alloc_if, heap_alloc_if]
    simp only [World.size_alloc] at h ⊢
    by_cases h1 : b < w.heap.size
    · have h3 : b < w.heap.size + 1 := by omega
      simp only [h1, h3, if_true]
    · by_cases h2 : b = w.heap.size
      · have h3 : b < w.heap.size + 1 := by omega
        simp only [h1, h2, h3, if_true, if_false, Nat.lt_irrefl, Nat.lt_succ_self]
      · have h3 : ¬ b < w.heap.size + 1 := by omega
        have h4 : b = w.heap.size + 1 := by omega
        simp only [h1, h2, h3, if_false]
        simp only [h4, if_true]
  · simp only [World.size_alloc] at h
    rw [if_neg (by omega), if_neg (by omega), if_neg (by omega)]
    simp only [wext, Array.getElem?_append]
    rw [if_neg (by simp; omega)]
    congr 1
    simp
theorem typed_two {w : World} {o1 o2 o1' o2' : Obj} {x : Ex} {e : TypeId} {v : Value} (h1 : ∀ c, o1 ≠ .cells c e (0, 0)) (h2 : ∀ c, o2 ≠ .cells c e (0, 0)) (h : TypedBy e (wext ((w.alloc o1).alloc o2) x) v) : TypedBy e (wext ((w.alloc o1').alloc o2') x) v := by
  intro b hb
  obtain ⟨c, hc⟩ := h b hb
  refine ⟨c, ?_⟩
  rw [heap_two] at hc ⊢
  by_cases q1 : b < w.heap.size
  · rw [if_pos q1] at hc ⊢
    exact hc
  · rw [if_neg q1] at hc ⊢
    by_cases q2 : b = w.heap.size
    · rw [if_pos q2] at hc
      simp only [Option.some.injEq] at hc
      exact absurd hc (h1 c)
    · rw [if_neg q2] at hc ⊢
      by_cases q3 : b = w.heap.size + 1
      · rw [if_pos q3] at hc
        simp only [Option.some.injEq] at hc
        exact absurd hc (h2 c)
      · rw [if_neg q3] at hc ⊢
        exact hc
theorem int_all (l : List Int) : ∀ u ∈ intsC l, u.oneCell' = true := by
  intro u hu
  simp [intsC] at hu
  obtain ⟨b, _, rfl⟩ := hu
  rfl
theorem clone56_I {S : Nat → Prop} (vo : Option Addr) (n vc : Nat) (l : List Int) (w : World) (h : Ints S w vo n vc l) (hn : n ≤ 1000) :
    Calls Tryz.prog 20 #[.slice vo n vc] w fun e w' => ∃ ao' c', e = .returned (.slice ao' n c') ∧ Exts w w' ∧ Ints (fun b => w.heap.size ≤ b) w' ao' n c' l ∧ TypedBy 3 w' (.slice ao' n c') :=
  clone56 _ n (intsC l) w h (int_all l) (by omega)
set_option maxRecDepth 100000
set_option maxHeartbeats 2000000
theorem clone44 {S : Nat → Prop} (id : Int) (vo : Option Addr) (n vc : Nat) (l : List Int) (gr : Bool) (w : World) (h : Ints S w vo n vc l) (hn : n ≤ 1000) :
    Calls Tryz.prog 33 #[.agg #[.int .i64 id, .slice vo n vc, .bool gr]] w fun e w' => ∃ ao' c', e = .returned (.agg #[.int .i64 id, .slice ao' n c', .bool gr]) ∧ Exts w w' ∧ Ints (fun b => w.heap.size ≤ b) w' ao' n c' l ∧ TypedBy 3 w' (.slice ao' n c') := by
  have H := Lib.hid h
  clear h
  go_enter Tryz.func33, Tryz.ntmps33
  go_wp2_with (first | (go_at_call 20; ((with_reducible refine (clone56_I _ _ _ l _ (RowF.exts H.out (by repeat (first | exact Exts.refl _ | apply Exts.andR | apply Exts.alloc | apply Exts.wext | apply Exts.drew | apply Exts.drewN))) hn).mono ?_); rintro e w' ⟨ao', c', rfl, ⟨x1, rfl⟩, hr, ht⟩; (have HR := Lib.hid hr); (have HT := Lib.hid ht); clear hr ht)))
  refine bodyPost_ret (v := .agg #[.int .i64 id, .slice ao' n c', .bool gr]) (by simp [results, go_sem]) rfl ⟨ao', c', rfl, (by repeat (first | exact Exts.refl _ | apply Exts.andR | apply Exts.alloc | apply Exts.wext | apply Exts.drew | apply Exts.drewN)), (HR.out.keeps (Keeps.base rfl (by simp))).up (by simp; omega), ?_⟩
  exact typed_two (fun c hc => by simp at hc) (fun c hc => by simp at hc) HT.out
end Go.Proofs.YtgmjcgjbbogefaaGreat

