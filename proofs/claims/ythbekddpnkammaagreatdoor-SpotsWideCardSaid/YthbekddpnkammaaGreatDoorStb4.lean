/- slices.symMergeCmpFunc at spots: in general. -/
import Derived.Test.YthbekddpnkammaaGreatDoorStbL
namespace Go.Proofs.YthbekddpnkammaaGreatDoor
open Go.Shelf Go.RowKit Go.Lib Go.Sort

variable {α : Type} [Inhabited α] {P : Program} {k : Nat} {enc : α → List Value} {key : α → Int} {tag : α → Nat} {g : Nat} {cb : Array Value} {blk off : Nat} {d0 : Array α} {w0 : World}
theorem rotT_none {s m e p : Nat} {d : Array α} (hs : s ≤ m) (h : s = m ∨ e = m) (hme : m ≤ e) : rotT d s m e p = d[p]! := by
  unfold rotT
  rcases h with h | h
  · subst h
    by_cases c : s ≤ p ∧ p < s + (e - s)
    · rw [if_pos c]
      congr 1
      omega
    · rw [if_neg c, if_neg (by omega)]
  · subst h
    rw [if_neg (by omega)]
    by_cases c : s + (e - e) ≤ p ∧ p < e
    · rw [if_pos c]
      congr 1
      omega
    · rw [if_neg c]
/-- What a call of the merge answers. -/
def SymOk (P : Program) (k : Nat) (enc : α → List Value) (key : α → Int) (tag : α → Nat) (g : Nat) (cb : Array Value) (blk off cap : Nat) (d0 : Array α) (w0 : World) (s : Nat) : Prop :=
  ∀ (a m b : Nat) (d : Array α) (w : World), b - a ≤ s → d.size = d0.size → SWK enc k w0 blk off d w → a < m → m < b → MG key tag a m b d →
    Calls P 121 #[.slice (some ⟨blk, off, none⟩) d0.size cap, .int .i64 a, .int .i64 m, .int .i64 b, .func (.func g) #[] cb] w fun e w' =>
      e = .returned (.tuple #[]) ∧ ∃ d' : Array α, SWK enc k w0 blk off d' w' ∧ Merged key tag a b d d'
set_option maxHeartbeats 16000000 in
set_option maxRecDepth 1000000 in
theorem sym_step (L : SrtL P k) (R : SR P k enc key g cb blk off d0 w0) (cap s : Nat) (ih : SymOk P k enc key tag g cb blk off cap d0 w0 s) (a m b : Nat) (d : Array α) (w : World) (hsb : b - a ≤ s + 1) (hs : d.size = d0.size) (S : SWK enc k w0 blk off d w) (ham : a + 1 < m) (hmb : m + 1 < b) (M : MG key tag a m b d) :
    Calls P 121 #[.slice (some ⟨blk, off, none⟩) d0.size cap, .int .i64 a, .int .i64 m, .int .i64 b, .func (.func g) #[] cb] w fun e w' =>
      e = .returned (.tuple #[]) ∧ ∃ d' : Array α, SWK enc k w0 blk off d' w' ∧ Merged key tag a b d d' := by
  have mixed := L.mixed; have t0 := L.t0; have a0 := L.a0; have z0 := L.z0; have v0 := L.v0; have t3 := L.t3; have a3 := L.a3; have z3 := L.z3; have v3 := L.v3; have t4 := L.t4; have a4 := L.a4; have z4 := L.z4; have v4 := L.v4; have t9 := L.t9; have a9 := L.a9; have z9 := L.z9; have v9 := L.v9; have tS := L.tS; have aS := L.aS; have zS := L.zS; have vS := L.vS; have tF := L.tF; have aF := L.aF; have zF := L.zF; have vF := L.vF; have aE := L.aE; have zE := L.zE; have FG := L.fSym
  have u9 := run_underlying L.t9
  have eR : ∀ args w, (callFunc 140 args).run P w = .ok (.enter 140 args) w := enters_of L.fRot (by kernel_rfl) rfl
  have eS : ∀ args w, (callFunc 121 args).run P w = .ok (.enter 121 args) w := enters_of L.fSym (by kernel_rfl) rfl
  have hsz := R.sz
  have hbs := M.bs
  have hbs0 : b ≤ d0.size := by omega
  have HRot : Aside (∀ (st e : Nat) (dk : Array α) (w : World), dk.size = d0.size → SWK enc k w0 blk off dk w → st < m → m < e → a ≤ st → e ≤ b → Calls P 140 #[.slice (some ⟨blk, off, none⟩) d0.size cap, .int .i64 st, .int .i64 m, .int .i64 e, .func (.func g) #[] cb] w fun e' w' =>
      e' = .returned (.tuple #[]) ∧ ∃ d' : Array α, SWK enc k w0 blk off d' w' ∧ PermIn a b dk d' ∧ ∀ p, p < dk.size → d'[p]! = rotT dk st m e p) := fun st e dk w h1 h2 h3 h4 h5 h6 => by
    rw [← h1]
    exact rotate_any L R cap st m e dk w h1 h2 h3 h4 (by omega) a b h5 h6 (by omega)
  have IH : Aside (SymOk P k enc key tag g cb blk off cap d0 w0 s) := ih
  have HR : Aside _ := R.row
  have HC : Aside _ := R.cmp
  have HM : Aside (MG key tag a m b d) := M
  have HS : Aside (d.size = d0.size) := hs
  have S0 : Aside (SWK enc k w0 blk off d w) := S
  have eg := R.eg
  clear S L R M hs hbs ih
  have c0 : (m : Int) - (a : Int) = ((m - a : Nat) : Int) := by omega
  have c1 : (((m - a : Nat) : Int) == 1) = false := by simp; omega
  have c2 : (b : Int) - (m : Int) = ((b - m : Nat) : Int) := by omega
  have c3 : (((b - m : Nat) : Int) == 1) = false := by simp; omega
  generalize m - a = ma at *
  generalize b - m = bm at *
  have e1 : (a : Int) + (b : Int) = ((a + b : Nat) : Int) := by omega
  obtain ⟨mid, hmid⟩ : ∃ h, (a + b) / 2 = h := ⟨_, rfl⟩
  have e3 : ((a + b : Nat) : Int) / 2 = (mid : Int) := by omega
  have e2 := u64_in (show a + b ≤ 1000000 by omega)
  have hmm : a < mid ∧ mid < b ∧ 2 * mid ≤ a + b ∧ a + b ≤ 2 * mid + 1 := by omega
  clear hmid
  generalize a + b = q0 at *
  have e4 : (mid : Int) + (m : Int) = ((mid + m : Nat) : Int) := by omega
  have e5 : ((mid + m : Nat) : Int) - 1 = ((mid + m - 1 : Nat) : Int) := by omega
  have hnn : mid + m - 1 + 1 = mid + m ∧ mid + m ≤ 200000 := by omega
  obtain ⟨nn, hnnE⟩ : ∃ x, mid + m = x := ⟨_, rfl⟩
  obtain ⟨pp, hppE⟩ : ∃ x, mid + m - 1 = x := ⟨_, rfl⟩
  rw [hnnE] at e4 e5 hnn
  rw [← hnnE, hppE, hnnE] at e5
  have HNN : Aside (nn = mid + m ∧ pp + 1 = nn) := ⟨hnnE.symm, by omega⟩
  have hpp : pp ≤ 200000 ∧ nn ≤ 200000 := by omega
  clear hnnE hppE hnn
  obtain ⟨s0, r0, hcase⟩ : ∃ s0 r0 : Nat, Aside (a ≤ s0 ∧ s0 ≤ r0 ∧ r0 ≤ mid ∧ r0 ≤ m ∧ (s0 = a ∨ s0 + b = nn) ∧ (r0 = m ∨ r0 = mid) ∧ nn ≤ s0 + b) ∧ ((mid < m ∧ (nn : Int) - (b : Int) = (s0 : Int) ∧ Aside (r0 = mid)) ∨ (¬ mid < m ∧ Aside (s0 = a ∧ r0 = m))) := by
    have h1 := HNN.out
    by_cases c : mid < m
    · exact ⟨nn - b, mid, ⟨by omega, by omega, by omega, by omega, by omega, by omega, by omega⟩, Or.inl ⟨c, by omega, rfl⟩⟩
    · exact ⟨a, m, ⟨by omega, by omega, by omega, by omega, by omega, by omega, by omega⟩, Or.inr ⟨c, rfl, rfl⟩⟩
  obtain ⟨HB, hcase⟩ := hcase
  have hs0 : s0 ≤ 100000 := by have := HB.out; omega
  rcases hcase with ⟨hd, hx, HE⟩ | ⟨hd, HE⟩
  · go_enter FG, Tryz.ntmps121
    go_wp2
    go_loopg [20, 21] (r0 - s0) (fun kx s20 s21 wr => ∃ st r : Nat, s20 = .int .i64 st ∧ s21 = .int .i64 r ∧ s0 ≤ st ∧ st ≤ r ∧ r ≤ r0 ∧ r - st ≤ kx ∧ Aside (SWK enc k w0 blk off d wr) ∧ Aside ((s0 < st → ahd key tag d[pp - (st - 1)]! d[st - 1]! = false) ∧ (r < r0 → ahd key tag d[pp - r]! d[r]! = true)))
    case atStart => exact ⟨s0, r0, rfl, (by rw [HE.out]), Nat.le_refl _, HB.out.2.1, Nat.le_refl _, Nat.le_refl _, S0, ⟨fun h => absurd h (Nat.lt_irrefl _), fun h => absurd h (Nat.lt_irrefl _)⟩⟩
    case round =>
      clear S0
      obtain ⟨st, r, rfl, rfl, hst, hsr, hr0, hkx, S1, HQ⟩ := hrel
      have hrm : r ≤ 100000 ∧ r ≤ m ∧ r ≤ mid := by have := HB.out; omega
      by_cases hlt : st < r
      · have f1 : (st : Int) + (r : Int) = ((st + r : Nat) : Int) := by omega
        obtain ⟨c, hc⟩ : ∃ h, (st + r) / 2 = h := ⟨_, rfl⟩
        have f3 : ((st + r : Nat) : Int) / 2 = (c : Int) := by omega
        have hic : st ≤ c ∧ c < r := by omega
        have f2 := u64_in (show st + r ≤ 1000000 by omega)
        clear hc
        generalize st + r = q at *
        have hpc : m ≤ pp - c ∧ pp - c < b ∧ a ≤ c ∧ c < m := by have := HB.out; have := HNN.out; omega
        have f4 : (pp : Int) - (c : Int) = ((pp - c : Nat) : Int) := by have := HB.out; have := HNN.out; omega
        have HPC := Lib.hid (show ∀ x, x = c + 1 → pp - (x - 1) = pp - c ∧ x - 1 = c from fun x hx => by omega)
        have lh := S1.out.ld HR.out HS.out P (pp - c) (by have := HS.out; omega)
        have la := S1.out.ld HR.out HS.out P c (by have := HS.out; omega)
        have hcg := S1.out.cmp HC.out HS.out d[pp - c]! d[c]!
        have HX : Aside (brt key d[pp - c]! d[c]! = ahd key tag d[pp - c]! d[c]!) := ahd_brt (HM.out.tags c (pp - c) hpc.2.2.1 hpc.2.2.2 hpc.1 hpc.2.1)
        have HXC := Lib.hid (cmp_lt (key := key) (x := d[pp - c]!) (y := d[c]!))
        have nh : (enc d[pp - c]!).length = k := HR.out.hk _
        have na : (enc d[c]!).length = k := HR.out.hk _
        obtain ⟨pc, hpcE⟩ : ∃ x, pp - c = x := ⟨_, rfl⟩
        rw [hpcE] at f4 lh hcg HX HXC nh hpc
        have HPE := Lib.hid hpcE
        clear hpcE
        have ph : (0 : Int) ≤ (pc : Int) := by omega
        have ec1 : ((pc : Int)).toNat = pc := by omega
        have ec2 : IntKind.i64.wrap (pc : Int) = (pc : Int) := by rw [IntKind.wrap_i64]; omega
        have ec3 : ((c : Int)).toNat = c := by omega
        have bh : (pc : Int) < (d0.size : Int) := by omega
        have pa : (0 : Int) ≤ (c : Int) := by omega
        have ba : (c : Int) < (d0.size : Int) := by omega
        obtain ⟨xh, hxh⟩ : ∃ x, d[pc]! = x := ⟨_, rfl⟩
        obtain ⟨xa, hxa⟩ : ∃ x, d[c]! = x := ⟨_, rfl⟩
        rw [hxh, hxa] at hcg HXC HX
        rw [hxh] at lh nh
        rw [hxa] at la na
        have HXA := Lib.hid hxa
        have HXH := Lib.hid hxh
        clear hxh hxa
        by_cases hlv : Lib.compareInt (key xa) (key xh) < 0
        · have HT := Lib.hid (HX.out.symm.trans (HXC.out.1 hlv))
          go_wp2_with fail
          go_quiet_grown (first | (go_at_fn g; refine Calls.grown_of (hcg _ _)))
          go_wp2
          go_roundg (c - st)
          case measure => omega
          case rel => exact ⟨st, c, rfl, by go_num, hst, hic.1, by omega, Nat.le_refl _, S1.out.grown nq osq, ⟨HQ.out.1, fun _ => by rw [HPE.out, HXH.out, HXA.out]; exact HT.out⟩⟩
        · have HT : Hid (ahd key tag xh xa = false) := Lib.hid (by rw [← HX.out]; cases z : brt key xh xa with
            | false => rfl
            | true => exact absurd (HXC.out.2 z) hlv)
          have hld : decide (Lib.compareInt (key xa) (key xh) < 0) = false := decide_eq_false hlv
          go_wp2_with fail
          go_quiet_grown (first | (go_at_fn g; refine Calls.grown_of (hcg _ _)))
          go_wp2
          go_roundg (r - (c + 1))
          case measure => omega
          case rel => exact ⟨c + 1, r, by go_num, rfl, by omega, by omega, hr0, Nat.le_refl _, S1.out.grown nq osq, ⟨fun _ => by rw [(HPC.out (c + 1) rfl).1, (HPC.out (c + 1) rfl).2, HPE.out, HXH.out, HXA.out]; exact HT.out, HQ.out.2⟩⟩
      · have hsr' : st = r := by omega
        subst hsr'
        have HST : Aside (s0 ≤ st ∧ st ≤ r0) := ⟨hst, hr0⟩
        have hen : a ≤ st ∧ st ≤ m ∧ m ≤ nn - st ∧ nn - st ≤ b ∧ st + (nn - st) = nn := by have := HB.out; have := HNN.out; omega
        have f4 : (nn : Int) - (st : Int) = ((nn - st : Nat) : Int) := by omega
        have HH1 : Aside (a < st → nn - st < b → ahd key tag d[nn - st]! d[st - 1]! = false) := fun h1 h2 => by
          have := HB.out
          have h3 := HQ.out.1 (by omega)
          rwa [show pp - (st - 1) = nn - st by have := HNN.out; omega] at h3
        have HH2 : Aside (st < m → m < nn - st → ahd key tag d[nn - st - 1]! d[st]! = true) := fun h1 h2 => by
          have h0 := HB.out
          have h4 := HNN.out
          have h3 := HQ.out.2 (by omega)
          rwa [show pp - st = nn - st - 1 by omega] at h3
        generalize nn - st = en at *
        have HSP : Aside (∀ d1 : Array α, PermIn a b d d1 → (∀ p, p < d.size → d1[p]! = rotT d st m en p) → MG key tag a st mid d1 ∧ MG key tag mid en b d1 ∧ ∀ p q, a ≤ p → p < mid → mid ≤ q → q < b → ahd key tag d1[q]! d1[p]! = false) := fun d1 h1 h2 =>
          HM.out.split hen.1 hen.2.1 hen.2.2.1 hen.2.2.2.1 (by have := HNN.out; omega) HH1.out HH2.out h1 h2
        clear HQ HH1 HH2
        have hsm : st ≤ mid ∧ mid ≤ en := by have := HB.out; have := HST.out; have := HNN.out; omega
        rcases (by omega : (st < m ∧ m < en) ∨ ¬ st < m ∨ (st < m ∧ ¬ m < en)) with ⟨c1', c1''⟩ | c1' | ⟨c1', c1''⟩
        · have HC1 := Lib.hid (HRot.out st en d wr HS.out S1.out c1' c1'' hen.1 hen.2.2.2.1)
          go_wp2_with fail
          refine HC1.out.mono ?_; rintro e w2 ⟨rfl, d1, S2, P1, r1⟩
          have SS : Aside (SWK enc k w0 blk off d1 w2) := S2
          have HP1 : Aside (PermIn a b d d1) := P1
          have HMM : Aside _ := HSP.out d1 P1 r1
          have hz1 : Aside (d1.size = d0.size) := P1.1.trans HS.out
          clear S2 P1 r1 HC1 HSP S1
          rcases (by omega : (a < st ∧ st < mid) ∨ ¬ a < st ∨ (a < st ∧ ¬ st < mid)) with ⟨c2, c2'⟩ | c2 | ⟨c2, c2'⟩
          · have HC2 := Lib.hid (IH.out a st mid d1 w2 (by omega) hz1.out SS.out c2 c2' HMM.out.1)
            go_wp2_with fail
            refine HC2.out.mono ?_; rintro e w3 ⟨rfl, d2, S3, M2⟩
            have SS2 : Aside (SWK enc k w0 blk off d2 w3) := S3
            have MM2 : Aside (Merged key tag a mid d1 d2) := M2
            have hz2 : Aside (d2.size = d0.size) := M2.1.1.trans hz1.out
            clear HC2 S3 M2
            have HMB : Aside (MG key tag mid en b d2) := by
              have hM := HMM.out.2.1
              have q := fun i h => MM2.out.1.2.1 i h
              refine ⟨hM.am, hM.mb, by rw [hz2.out]; exact hbs0, fun i j k1 k2 k3 => ?_, fun i j k1 k2 k3 => ?_, fun i j k1 k2 k3 k4 => ?_⟩
              · rw [q i (Or.inr k1), q j (Or.inr (by omega))]; exact hM.left i j k1 k2 k3
              · have := hM.am; rw [q i (Or.inr (by omega)), q j (Or.inr (by omega))]; exact hM.right i j k1 k2 k3
              · have := hM.am; rw [q i (Or.inr k1), q j (Or.inr (by omega))]; exact hM.tags i j k1 k2 k3 k4
            rcases (by omega : (mid < en ∧ en < b) ∨ ¬ mid < en ∨ (mid < en ∧ ¬ en < b)) with ⟨c3, c3'⟩ | c3 | ⟨c3, c3'⟩
            · have HC3 := Lib.hid (IH.out mid en b d2 w3 (by omega) hz2.out SS2.out c3 c3' HMB.out)
              go_wp2_with fail
              refine HC3.out.mono ?_; rintro e w4 ⟨rfl, d3, S4, M3⟩
              go_wp2
              go_end0
              exact ⟨rfl, d3, S4, merged_both (by omega) (by omega) (by rw [HS.out]; exact hbs0) HP1.out HMM.out.2.2 MM2.out M3⟩
            all_goals
              have g3 : Aside (mid = en ∨ en = b) := by
                show mid = en ∨ en = b
                omega
              go_wp2
              go_end0
              exact ⟨rfl, d2, SS2.out, merged_both (by omega) (by omega) (by rw [HS.out]; exact hbs0) HP1.out HMM.out.2.2 MM2.out (HMB.out.triv g3.out)⟩
          all_goals
            have g1 : Aside (a = st ∨ st = mid) := by
              show a = st ∨ st = mid
              omega
            have MM2 : Aside (Merged key tag a mid d1 d1) := HMM.out.1.triv g1.out
            have SS2 := SS
            have hz2 := hz1
            have HMB : Aside (MG key tag mid en b d1) := by
              have hM := HMM.out.2.1
              have q := fun i h => MM2.out.1.2.1 i h
              refine ⟨hM.am, hM.mb, by rw [hz2.out]; exact hbs0, fun i j k1 k2 k3 => ?_, fun i j k1 k2 k3 => ?_, fun i j k1 k2 k3 k4 => ?_⟩
              · rw [q i (Or.inr k1), q j (Or.inr (by omega))]; exact hM.left i j k1 k2 k3
              · have := hM.am; rw [q i (Or.inr (by omega)), q j (Or.inr (by omega))]; exact hM.right i j k1 k2 k3
              · have := hM.am; rw [q i (Or.inr k1), q j (Or.inr (by omega))]; exact hM.tags i j k1 k2 k3 k4
            rcases (by omega : (mid < en ∧ en < b) ∨ ¬ mid < en ∨ (mid < en ∧ ¬ en < b)) with ⟨c3, c3'⟩ | c3 | ⟨c3, c3'⟩
            · have HC3 := Lib.hid (IH.out mid en b d1 w2 (by omega) hz2.out SS2.out c3 c3' HMB.out)
              go_wp2_with fail
              refine HC3.out.mono ?_; rintro e w4 ⟨rfl, d3, S4, M3⟩
              go_wp2
              go_end0
              exact ⟨rfl, d3, S4, merged_both (by omega) (by omega) (by rw [HS.out]; exact hbs0) HP1.out HMM.out.2.2 MM2.out M3⟩
            all_goals
              have g3 : Aside (mid = en ∨ en = b) := by
                show mid = en ∨ en = b
                omega
              go_wp2
              go_end0
              exact ⟨rfl, d1, SS2.out, merged_both (by omega) (by omega) (by rw [HS.out]; exact hbs0) HP1.out HMM.out.2.2 MM2.out (HMB.out.triv g3.out)⟩
        all_goals
          have HMM : Aside _ := HSP.out d (permIn_refl d a b) (fun p _ => (rotT_none hen.2.1 (by omega) hen.2.2.1).symm)
          have HP1 : Aside (PermIn a b d d) := permIn_refl d a b
          have SS := S1
          have hz1 : Aside (d.size = d0.size) := HS.out
          clear HSP S1
          generalize wr = w2 at *
          rcases (by omega : (a < st ∧ st < mid) ∨ ¬ a < st ∨ (a < st ∧ ¬ st < mid)) with ⟨c2, c2'⟩ | c2 | ⟨c2, c2'⟩
          · have HC2 := Lib.hid (IH.out a st mid d w2 (by omega) hz1.out SS.out c2 c2' HMM.out.1)
            go_wp2_with fail
            refine HC2.out.mono ?_; rintro e w3 ⟨rfl, d2, S3, M2⟩
            have SS2 : Aside (SWK enc k w0 blk off d2 w3) := S3
            have MM2 : Aside (Merged key tag a mid d d2) := M2
            have hz2 : Aside (d2.size = d0.size) := M2.1.1.trans hz1.out
            clear HC2 S3 M2
            have HMB : Aside (MG key tag mid en b d2) := by
              have hM := HMM.out.2.1
              have q := fun i h => MM2.out.1.2.1 i h
              refine ⟨hM.am, hM.mb, by rw [hz2.out]; exact hbs0, fun i j k1 k2 k3 => ?_, fun i j k1 k2 k3 => ?_, fun i j k1 k2 k3 k4 => ?_⟩
              · rw [q i (Or.inr k1), q j (Or.inr (by omega))]; exact hM.left i j k1 k2 k3
              · have := hM.am; rw [q i (Or.inr (by omega)), q j (Or.inr (by omega))]; exact hM.right i j k1 k2 k3
              · have := hM.am; rw [q i (Or.inr k1), q j (Or.inr (by omega))]; exact hM.tags i j k1 k2 k3 k4
            rcases (by omega : (mid < en ∧ en < b) ∨ ¬ mid < en ∨ (mid < en ∧ ¬ en < b)) with ⟨c3, c3'⟩ | c3 | ⟨c3, c3'⟩
            · have HC3 := Lib.hid (IH.out mid en b d2 w3 (by omega) hz2.out SS2.out c3 c3' HMB.out)
              go_wp2_with fail
              refine HC3.out.mono ?_; rintro e w4 ⟨rfl, d3, S4, M3⟩
              go_wp2
              go_end0
              exact ⟨rfl, d3, S4, merged_both (by omega) (by omega) (by rw [HS.out]; exact hbs0) HP1.out HMM.out.2.2 MM2.out M3⟩
            all_goals
              have g3 : Aside (mid = en ∨ en = b) := by
                show mid = en ∨ en = b
                omega
              go_wp2
              go_end0
              exact ⟨rfl, d2, SS2.out, merged_both (by omega) (by omega) (by rw [HS.out]; exact hbs0) HP1.out HMM.out.2.2 MM2.out (HMB.out.triv g3.out)⟩
          all_goals
            have g1 : Aside (a = st ∨ st = mid) := by
              show a = st ∨ st = mid
              omega
            have MM2 : Aside (Merged key tag a mid d d) := HMM.out.1.triv g1.out
            have SS2 := SS
            have hz2 := hz1
            have HMB : Aside (MG key tag mid en b d) := by
              have hM := HMM.out.2.1
              have q := fun i h => MM2.out.1.2.1 i h
              refine ⟨hM.am, hM.mb, by rw [hz2.out]; exact hbs0, fun i j k1 k2 k3 => ?_, fun i j k1 k2 k3 => ?_, fun i j k1 k2 k3 k4 => ?_⟩
              · rw [q i (Or.inr k1), q j (Or.inr (by omega))]; exact hM.left i j k1 k2 k3
              · have := hM.am; rw [q i (Or.inr (by omega)), q j (Or.inr (by omega))]; exact hM.right i j k1 k2 k3
              · have := hM.am; rw [q i (Or.inr k1), q j (Or.inr (by omega))]; exact hM.tags i j k1 k2 k3 k4
            rcases (by omega : (mid < en ∧ en < b) ∨ ¬ mid < en ∨ (mid < en ∧ ¬ en < b)) with ⟨c3, c3'⟩ | c3 | ⟨c3, c3'⟩
            · have HC3 := Lib.hid (IH.out mid en b d w2 (by omega) hz2.out SS2.out c3 c3' HMB.out)
              go_wp2_with fail
              refine HC3.out.mono ?_; rintro e w4 ⟨rfl, d3, S4, M3⟩
              go_wp2
              go_end0
              exact ⟨rfl, d3, S4, merged_both (by omega) (by omega) (by rw [HS.out]; exact hbs0) HP1.out HMM.out.2.2 MM2.out M3⟩
            all_goals
              have g3 : Aside (mid = en ∨ en = b) := by
                show mid = en ∨ en = b
                omega
              go_wp2
              go_end0
              exact ⟨rfl, d, SS2.out, merged_both (by omega) (by omega) (by rw [HS.out]; exact hbs0) HP1.out HMM.out.2.2 MM2.out (HMB.out.triv g3.out)⟩
  · go_enter FG, Tryz.ntmps121
    go_wp2
    go_loopg [20, 21] (r0 - s0) (fun kx s20 s21 wr => ∃ st r : Nat, s20 = .int .i64 st ∧ s21 = .int .i64 r ∧ s0 ≤ st ∧ st ≤ r ∧ r ≤ r0 ∧ r - st ≤ kx ∧ Aside (SWK enc k w0 blk off d wr) ∧ Aside ((s0 < st → ahd key tag d[pp - (st - 1)]! d[st - 1]! = false) ∧ (r < r0 → ahd key tag d[pp - r]! d[r]! = true)))
    case atStart => exact ⟨s0, r0, (by rw [HE.out.1]), (by rw [HE.out.2]), Nat.le_refl _, HB.out.2.1, Nat.le_refl _, Nat.le_refl _, S0, ⟨fun h => absurd h (Nat.lt_irrefl _), fun h => absurd h (Nat.lt_irrefl _)⟩⟩
    case round =>
      clear S0
      obtain ⟨st, r, rfl, rfl, hst, hsr, hr0, hkx, S1, HQ⟩ := hrel
      have hrm : r ≤ 100000 ∧ r ≤ m ∧ r ≤ mid := by have := HB.out; omega
      by_cases hlt : st < r
      · have f1 : (st : Int) + (r : Int) = ((st + r : Nat) : Int) := by omega
        obtain ⟨c, hc⟩ : ∃ h, (st + r) / 2 = h := ⟨_, rfl⟩
        have f3 : ((st + r : Nat) : Int) / 2 = (c : Int) := by omega
        have hic : st ≤ c ∧ c < r := by omega
        have f2 := u64_in (show st + r ≤ 1000000 by omega)
        clear hc
        generalize st + r = q at *
        have hpc : m ≤ pp - c ∧ pp - c < b ∧ a ≤ c ∧ c < m := by have := HB.out; have := HNN.out; omega
        have f4 : (pp : Int) - (c : Int) = ((pp - c : Nat) : Int) := by have := HB.out; have := HNN.out; omega
        have HPC := Lib.hid (show ∀ x, x = c + 1 → pp - (x - 1) = pp - c ∧ x - 1 = c from fun x hx => by omega)
        have lh := S1.out.ld HR.out HS.out P (pp - c) (by have := HS.out; omega)
        have la := S1.out.ld HR.out HS.out P c (by have := HS.out; omega)
        have hcg := S1.out.cmp HC.out HS.out d[pp - c]! d[c]!
        have HX : Aside (brt key d[pp - c]! d[c]! = ahd key tag d[pp - c]! d[c]!) := ahd_brt (HM.out.tags c (pp - c) hpc.2.2.1 hpc.2.2.2 hpc.1 hpc.2.1)
        have HXC := Lib.hid (cmp_lt (key := key) (x := d[pp - c]!) (y := d[c]!))
        have nh : (enc d[pp - c]!).length = k := HR.out.hk _
        have na : (enc d[c]!).length = k := HR.out.hk _
        obtain ⟨pc, hpcE⟩ : ∃ x, pp - c = x := ⟨_, rfl⟩
        rw [hpcE] at f4 lh hcg HX HXC nh hpc
        have HPE := Lib.hid hpcE
        clear hpcE
        have ph : (0 : Int) ≤ (pc : Int) := by omega
        have ec1 : ((pc : Int)).toNat = pc := by omega
        have ec2 : IntKind.i64.wrap (pc : Int) = (pc : Int) := by rw [IntKind.wrap_i64]; omega
        have ec3 : ((c : Int)).toNat = c := by omega
        have bh : (pc : Int) < (d0.size : Int) := by omega
        have pa : (0 : Int) ≤ (c : Int) := by omega
        have ba : (c : Int) < (d0.size : Int) := by omega
        obtain ⟨xh, hxh⟩ : ∃ x, d[pc]! = x := ⟨_, rfl⟩
        obtain ⟨xa, hxa⟩ : ∃ x, d[c]! = x := ⟨_, rfl⟩
        rw [hxh, hxa] at hcg HXC HX
        rw [hxh] at lh nh
        rw [hxa] at la na
        have HXA := Lib.hid hxa
        have HXH := Lib.hid hxh
        clear hxh hxa
        by_cases hlv : Lib.compareInt (key xa) (key xh) < 0
        · have HT := Lib.hid (HX.out.symm.trans (HXC.out.1 hlv))
          go_wp2_with fail
          go_quiet_grown (first | (go_at_fn g; refine Calls.grown_of (hcg _ _)))
          go_wp2
          go_roundg (c - st)
          case measure => omega
          case rel => exact ⟨st, c, rfl, by go_num, hst, hic.1, by omega, Nat.le_refl _, S1.out.grown nq osq, ⟨HQ.out.1, fun _ => by rw [HPE.out, HXH.out, HXA.out]; exact HT.out⟩⟩
        · have HT : Hid (ahd key tag xh xa = false) := Lib.hid (by rw [← HX.out]; cases z : brt key xh xa with
            | false => rfl
            | true => exact absurd (HXC.out.2 z) hlv)
          have hld : decide (Lib.compareInt (key xa) (key xh) < 0) = false := decide_eq_false hlv
          go_wp2_with fail
          go_quiet_grown (first | (go_at_fn g; refine Calls.grown_of (hcg _ _)))
          go_wp2
          go_roundg (r - (c + 1))
          case measure => omega
          case rel => exact ⟨c + 1, r, by go_num, rfl, by omega, by omega, hr0, Nat.le_refl _, S1.out.grown nq osq, ⟨fun _ => by rw [(HPC.out (c + 1) rfl).1, (HPC.out (c + 1) rfl).2, HPE.out, HXH.out, HXA.out]; exact HT.out, HQ.out.2⟩⟩
      · have hsr' : st = r := by omega
        subst hsr'
        have HST : Aside (s0 ≤ st ∧ st ≤ r0) := ⟨hst, hr0⟩
        have hen : a ≤ st ∧ st ≤ m ∧ m ≤ nn - st ∧ nn - st ≤ b ∧ st + (nn - st) = nn := by have := HB.out; have := HNN.out; omega
        have f4 : (nn : Int) - (st : Int) = ((nn - st : Nat) : Int) := by omega
        have HH1 : Aside (a < st → nn - st < b → ahd key tag d[nn - st]! d[st - 1]! = false) := fun h1 h2 => by
          have := HB.out
          have h3 := HQ.out.1 (by omega)
          rwa [show pp - (st - 1) = nn - st by have := HNN.out; omega] at h3
        have HH2 : Aside (st < m → m < nn - st → ahd key tag d[nn - st - 1]! d[st]! = true) := fun h1 h2 => by
          have h0 := HB.out
          have h4 := HNN.out
          have h3 := HQ.out.2 (by omega)
          rwa [show pp - st = nn - st - 1 by omega] at h3
        generalize nn - st = en at *
        have HSP : Aside (∀ d1 : Array α, PermIn a b d d1 → (∀ p, p < d.size → d1[p]! = rotT d st m en p) → MG key tag a st mid d1 ∧ MG key tag mid en b d1 ∧ ∀ p q, a ≤ p → p < mid → mid ≤ q → q < b → ahd key tag d1[q]! d1[p]! = false) := fun d1 h1 h2 =>
          HM.out.split hen.1 hen.2.1 hen.2.2.1 hen.2.2.2.1 (by have := HNN.out; omega) HH1.out HH2.out h1 h2
        clear HQ HH1 HH2
        have hsm : st ≤ mid ∧ mid ≤ en := by have := HB.out; have := HST.out; have := HNN.out; omega
        rcases (by omega : (st < m ∧ m < en) ∨ ¬ st < m ∨ (st < m ∧ ¬ m < en)) with ⟨c1', c1''⟩ | c1' | ⟨c1', c1''⟩
        · have HC1 := Lib.hid (HRot.out st en d wr HS.out S1.out c1' c1'' hen.1 hen.2.2.2.1)
          go_wp2_with fail
          refine HC1.out.mono ?_; rintro e w2 ⟨rfl, d1, S2, P1, r1⟩
          have SS : Aside (SWK enc k w0 blk off d1 w2) := S2
          have HP1 : Aside (PermIn a b d d1) := P1
          have HMM : Aside _ := HSP.out d1 P1 r1
          have hz1 : Aside (d1.size = d0.size) := P1.1.trans HS.out
          clear S2 P1 r1 HC1 HSP S1
          rcases (by omega : (a < st ∧ st < mid) ∨ ¬ a < st ∨ (a < st ∧ ¬ st < mid)) with ⟨c2, c2'⟩ | c2 | ⟨c2, c2'⟩
          · have HC2 := Lib.hid (IH.out a st mid d1 w2 (by omega) hz1.out SS.out c2 c2' HMM.out.1)
            go_wp2_with fail
            refine HC2.out.mono ?_; rintro e w3 ⟨rfl, d2, S3, M2⟩
            have SS2 : Aside (SWK enc k w0 blk off d2 w3) := S3
            have MM2 : Aside (Merged key tag a mid d1 d2) := M2
            have hz2 : Aside (d2.size = d0.size) := M2.1.1.trans hz1.out
            clear HC2 S3 M2
            have HMB : Aside (MG key tag mid en b d2) := by
              have hM := HMM.out.2.1
              have q := fun i h => MM2.out.1.2.1 i h
              refine ⟨hM.am, hM.mb, by rw [hz2.out]; exact hbs0, fun i j k1 k2 k3 => ?_, fun i j k1 k2 k3 => ?_, fun i j k1 k2 k3 k4 => ?_⟩
              · rw [q i (Or.inr k1), q j (Or.inr (by omega))]; exact hM.left i j k1 k2 k3
              · have := hM.am; rw [q i (Or.inr (by omega)), q j (Or.inr (by omega))]; exact hM.right i j k1 k2 k3
              · have := hM.am; rw [q i (Or.inr k1), q j (Or.inr (by omega))]; exact hM.tags i j k1 k2 k3 k4
            rcases (by omega : (mid < en ∧ en < b) ∨ ¬ mid < en ∨ (mid < en ∧ ¬ en < b)) with ⟨c3, c3'⟩ | c3 | ⟨c3, c3'⟩
            · have HC3 := Lib.hid (IH.out mid en b d2 w3 (by omega) hz2.out SS2.out c3 c3' HMB.out)
              go_wp2_with fail
              refine HC3.out.mono ?_; rintro e w4 ⟨rfl, d3, S4, M3⟩
              go_wp2
              go_end0
              exact ⟨rfl, d3, S4, merged_both (by omega) (by omega) (by rw [HS.out]; exact hbs0) HP1.out HMM.out.2.2 MM2.out M3⟩
            all_goals
              have g3 : Aside (mid = en ∨ en = b) := by
                show mid = en ∨ en = b
                omega
              go_wp2
              go_end0
              exact ⟨rfl, d2, SS2.out, merged_both (by omega) (by omega) (by rw [HS.out]; exact hbs0) HP1.out HMM.out.2.2 MM2.out (HMB.out.triv g3.out)⟩
          all_goals
            have g1 : Aside (a = st ∨ st = mid) := by
              show a = st ∨ st = mid
              omega
            have MM2 : Aside (Merged key tag a mid d1 d1) := HMM.out.1.triv g1.out
            have SS2 := SS
            have hz2 := hz1
            have HMB : Aside (MG key tag mid en b d1) := by
              have hM := HMM.out.2.1
              have q := fun i h => MM2.out.1.2.1 i h
              refine ⟨hM.am, hM.mb, by rw [hz2.out]; exact hbs0, fun i j k1 k2 k3 => ?_, fun i j k1 k2 k3 => ?_, fun i j k1 k2 k3 k4 => ?_⟩
              · rw [q i (Or.inr k1), q j (Or.inr (by omega))]; exact hM.left i j k1 k2 k3
              · have := hM.am; rw [q i (Or.inr (by omega)), q j (Or.inr (by omega))]; exact hM.right i j k1 k2 k3
              · have := hM.am; rw [q i (Or.inr k1), q j (Or.inr (by omega))]; exact hM.tags i j k1 k2 k3 k4
            rcases (by omega : (mid < en ∧ en < b) ∨ ¬ mid < en ∨ (mid < en ∧ ¬ en < b)) with ⟨c3, c3'⟩ | c3 | ⟨c3, c3'⟩
            · have HC3 := Lib.hid (IH.out mid en b d1 w2 (by omega) hz2.out SS2.out c3 c3' HMB.out)
              go_wp2_with fail
              refine HC3.out.mono ?_; rintro e w4 ⟨rfl, d3, S4, M3⟩
              go_wp2
              go_end0
              exact ⟨rfl, d3, S4, merged_both (by omega) (by omega) (by rw [HS.out]; exact hbs0) HP1.out HMM.out.2.2 MM2.out M3⟩
            all_goals
              have g3 : Aside (mid = en ∨ en = b) := by
                show mid = en ∨ en = b
                omega
              go_wp2
              go_end0
              exact ⟨rfl, d1, SS2.out, merged_both (by omega) (by omega) (by rw [HS.out]; exact hbs0) HP1.out HMM.out.2.2 MM2.out (HMB.out.triv g3.out)⟩
        all_goals
          have HMM : Aside _ := HSP.out d (permIn_refl d a b) (fun p _ => (rotT_none hen.2.1 (by omega) hen.2.2.1).symm)
          have HP1 : Aside (PermIn a b d d) := permIn_refl d a b
          have SS := S1
          have hz1 : Aside (d.size = d0.size) := HS.out
          clear HSP S1
          generalize wr = w2 at *
          rcases (by omega : (a < st ∧ st < mid) ∨ ¬ a < st ∨ (a < st ∧ ¬ st < mid)) with ⟨c2, c2'⟩ | c2 | ⟨c2, c2'⟩
          · have HC2 := Lib.hid (IH.out a st mid d w2 (by omega) hz1.out SS.out c2 c2' HMM.out.1)
            go_wp2_with fail
            refine HC2.out.mono ?_; rintro e w3 ⟨rfl, d2, S3, M2⟩
            have SS2 : Aside (SWK enc k w0 blk off d2 w3) := S3
            have MM2 : Aside (Merged key tag a mid d d2) := M2
            have hz2 : Aside (d2.size = d0.size) := M2.1.1.trans hz1.out
            clear HC2 S3 M2
            have HMB : Aside (MG key tag mid en b d2) := by
              have hM := HMM.out.2.1
              have q := fun i h => MM2.out.1.2.1 i h
              refine ⟨hM.am, hM.mb, by rw [hz2.out]; exact hbs0, fun i j k1 k2 k3 => ?_, fun i j k1 k2 k3 => ?_, fun i j k1 k2 k3 k4 => ?_⟩
              · rw [q i (Or.inr k1), q j (Or.inr (by omega))]; exact hM.left i j k1 k2 k3
              · have := hM.am; rw [q i (Or.inr (by omega)), q j (Or.inr (by omega))]; exact hM.right i j k1 k2 k3
              · have := hM.am; rw [q i (Or.inr k1), q j (Or.inr (by omega))]; exact hM.tags i j k1 k2 k3 k4
            rcases (by omega : (mid < en ∧ en < b) ∨ ¬ mid < en ∨ (mid < en ∧ ¬ en < b)) with ⟨c3, c3'⟩ | c3 | ⟨c3, c3'⟩
            · have HC3 := Lib.hid (IH.out mid en b d2 w3 (by omega) hz2.out SS2.out c3 c3' HMB.out)
              go_wp2_with fail
              refine HC3.out.mono ?_; rintro e w4 ⟨rfl, d3, S4, M3⟩
              go_wp2
              go_end0
              exact ⟨rfl, d3, S4, merged_both (by omega) (by omega) (by rw [HS.out]; exact hbs0) HP1.out HMM.out.2.2 MM2.out M3⟩
            all_goals
              have g3 : Aside (mid = en ∨ en = b) := by
                show mid = en ∨ en = b
                omega
              go_wp2
              go_end0
              exact ⟨rfl, d2, SS2.out, merged_both (by omega) (by omega) (by rw [HS.out]; exact hbs0) HP1.out HMM.out.2.2 MM2.out (HMB.out.triv g3.out)⟩
          all_goals
            have g1 : Aside (a = st ∨ st = mid) := by
              show a = st ∨ st = mid
              omega
            have MM2 : Aside (Merged key tag a mid d d) := HMM.out.1.triv g1.out
            have SS2 := SS
            have hz2 := hz1
            have HMB : Aside (MG key tag mid en b d) := by
              have hM := HMM.out.2.1
              have q := fun i h => MM2.out.1.2.1 i h
              refine ⟨hM.am, hM.mb, by rw [hz2.out]; exact hbs0, fun i j k1 k2 k3 => ?_, fun i j k1 k2 k3 => ?_, fun i j k1 k2 k3 k4 => ?_⟩
              · rw [q i (Or.inr k1), q j (Or.inr (by omega))]; exact hM.left i j k1 k2 k3
              · have := hM.am; rw [q i (Or.inr (by omega)), q j (Or.inr (by omega))]; exact hM.right i j k1 k2 k3
              · have := hM.am; rw [q i (Or.inr k1), q j (Or.inr (by omega))]; exact hM.tags i j k1 k2 k3 k4
            rcases (by omega : (mid < en ∧ en < b) ∨ ¬ mid < en ∨ (mid < en ∧ ¬ en < b)) with ⟨c3, c3'⟩ | c3 | ⟨c3, c3'⟩
            · have HC3 := Lib.hid (IH.out mid en b d w2 (by omega) hz2.out SS2.out c3 c3' HMB.out)
              go_wp2_with fail
              refine HC3.out.mono ?_; rintro e w4 ⟨rfl, d3, S4, M3⟩
              go_wp2
              go_end0
              exact ⟨rfl, d3, S4, merged_both (by omega) (by omega) (by rw [HS.out]; exact hbs0) HP1.out HMM.out.2.2 MM2.out M3⟩
            all_goals
              have g3 : Aside (mid = en ∨ en = b) := by
                show mid = en ∨ en = b
                omega
              go_wp2
              go_end0
              exact ⟨rfl, d, SS2.out, merged_both (by omega) (by omega) (by rw [HS.out]; exact hbs0) HP1.out HMM.out.2.2 MM2.out (HMB.out.triv g3.out)⟩
end Go.Proofs.YthbekddpnkammaaGreatDoor
