/- slices.symMergeCmpFunc at spots: one element on the right. -/
import Derived.Test.YthbekddpnkammaaDoorStb2
namespace Go.Proofs.YthbekddpnkammaaDoor
open Go.Shelf Go.RowKit Go.Lib Go.Sort

variable {α : Type} [Inhabited α] {P : Program} {k : Nat} {enc : α → List Value} {key : α → Int} {tag : α → Nat} {g : Nat} {cb : Array Value} {blk off : Nat} {d0 : Array α} {w0 : World}
set_option maxHeartbeats 4000000 in
set_option maxRecDepth 1000000 in
/-- One element on the right. -/
theorem sym_right (L : SrtL P k) (R : SR P k enc key g cb blk off d0 w0) (cap a m : Nat) (d : Array α) (w : World) (hs : d.size = d0.size) (S : SWK enc k w0 blk off d w) (ha : a + 1 < m) (M : MG key tag a m (m + 1) d) :
    Calls P 44 #[.slice (some ⟨blk, off, none⟩) d.size cap, .int .i64 a, .int .i64 m, .int .i64 (m + 1 : Nat), .func (.func g) #[] cb] w fun e w' =>
      e = .returned (.tuple #[]) ∧ ∃ d' : Array α, SWK enc k w0 blk off d' w' ∧ Merged key tag a (m + 1) d d' := by
  have mixed := L.mixed; have t0 := L.t0; have a0 := L.a0; have z0 := L.z0; have v0 := L.v0; have t3 := L.t3; have a3 := L.a3; have z3 := L.z3; have v3 := L.v3; have t4 := L.t4; have a4 := L.a4; have z4 := L.z4; have v4 := L.v4; have t9 := L.t9; have a9 := L.a9; have z9 := L.z9; have v9 := L.v9; have tS := L.tS; have aS := L.aS; have zS := L.zS; have vS := L.vS; have tF := L.tF; have aF := L.aF; have zF := L.zF; have vF := L.vF; have aE := L.aE; have zE := L.zE; have FG := L.fSym
  have u9 := run_underlying L.t9
  have hsz := R.sz
  have hdz : d.size ≤ 100000 := by omega
  have hbs := M.bs
  have HR : Aside _ := R.row
  have HC : Aside _ := R.cmp
  have EG : Aside _ := R.eg
  have HM : Aside (MG key tag a m (m + 1) d) := M
  have HS : Aside (d.size = d0.size) := hs
  have S0 : Aside (SWK enc k w0 blk off d w) := S
  have c0 : (m : Int) - (a : Int) = ((m - a : Nat) : Int) := by omega
  have c1 : (((m - a : Nat) : Int) == 1) = false := by simp; omega
  have c2 : ((m + 1 : Nat) : Int) - (m : Int) = 1 := by omega
  have eg := R.eg
  clear S L R M hs hsz
  generalize m - a = ma at *
  generalize hm : m + 1 = b at *
  go_enter FG, Tryd.ntmps44
  go_wp2
  go_loopg [14, 15] (m - a) (fun kx s14 s15 wr => ∃ i j : Nat, s14 = .int .i64 i ∧ s15 = .int .i64 j ∧ a ≤ i ∧ i ≤ j ∧ j ≤ m ∧ j - i ≤ kx ∧ Aside (SWK enc k w0 blk off d wr) ∧ Aside ((∀ q, a ≤ q → q < i → ahd key tag d[m]! d[q]! = false) ∧ ∀ q, j ≤ q → q < m → ahd key tag d[m]! d[q]! = true))
  case atStart => exact ⟨a, m, rfl, rfl, Nat.le_refl _, by omega, Nat.le_refl _, Nat.le_refl _, S0, ⟨fun q h1 h2 => by omega, fun q h1 h2 => by omega⟩⟩
  case round =>
    clear S0
    obtain ⟨i, j, rfl, rfl, hmi, hij, hjb, hkx, S1, HQ⟩ := hrel
    by_cases hlt : i < j
    · have e1 : (i : Int) + (j : Int) = ((i + j : Nat) : Int) := by omega
      obtain ⟨h, hh⟩ : ∃ h, (i + j) / 2 = h := ⟨_, rfl⟩
      have e3 : ((i + j : Nat) : Int) / 2 = (h : Int) := by omega
      have hih : i ≤ h ∧ h < j := by omega
      have e2 := u64_in (show i + j ≤ 1000000 by omega)
      have lh := S1.out.ld HR.out HS.out P h (by omega)
      have la := S1.out.ld HR.out HS.out P m (by omega)
      have hcg := S1.out.cmp HC.out HS.out d[m]! d[h]!
      have HX : Aside (brt key d[m]! d[h]! = ahd key tag d[m]! d[h]!) := ahd_brt (HM.out.tags h m (by omega) (by omega) (Nat.le_refl _) (by omega))
      have HXC := Lib.hid (cmp_lt (key := key) (x := d[m]!) (y := d[h]!))
      have HSL := Lib.hid (fun (hx : ahd key tag d[m]! d[h]! = false) q h1 h2 => search_left' (q := q) HM.out.left (by omega) hx h1 h2)
      have HSR := Lib.hid (fun (hx : ahd key tag d[m]! d[h]! = true) q h1 h2 => search_right' (q := q) HM.out.left (by omega) hx h1 h2)
      clear hh
      generalize i + j = q at *
      have ph : (0 : Int) ≤ (h : Int) := by omega
      have bh : (h : Int) < (d.size : Int) := by omega
      have pa : (0 : Int) ≤ (m : Int) := by omega
      have ba : (m : Int) < (d.size : Int) := by omega
      have nh : (enc d[h]!).length = k := HR.out.hk _
      have na : (enc d[m]!).length = k := HR.out.hk _
      obtain ⟨xh, hxh⟩ : ∃ x, d[h]! = x := ⟨_, rfl⟩
      obtain ⟨xa, hxa⟩ : ∃ x, d[m]! = x := ⟨_, rfl⟩
      rw [hxh, hxa] at hcg HXC HX HSL HSR
      rw [hxh] at lh nh
      rw [hxa] at la na
      have HXA := Lib.hid hxa
      clear hxh hxa
      by_cases hlv : Lib.compareInt (key xh) (key xa) < 0
      · have HT := Lib.hid (HX.out.symm.trans (HXC.out.1 hlv))
        go_wp2_with fail
        go_quiet_grown (first | (go_at_fn g; refine Calls.grown_of (hcg _ _)))
        go_wp2
        go_roundg (h - i)
        case measure => omega
        case rel => exact ⟨i, h, rfl, by go_num, hmi, by omega, by omega, Nat.le_refl _, S1.out.grown nq osq, ⟨HQ.out.1, fun q h1 h2 => by rw [HXA.out]; exact HSR.out HT.out q h1 h2⟩⟩
      · have HT : Hid (ahd key tag xa xh = false) := Lib.hid (by rw [← HX.out]; cases z : brt key xa xh with
          | false => rfl
          | true => exact absurd (HXC.out.2 z) hlv)
        have hld : decide (Lib.compareInt (key xh) (key xa) < 0) = false := decide_eq_false hlv
        go_wp2_with fail
        go_quiet_grown (first | (go_at_fn g; refine Calls.grown_of (hcg _ _)))
        go_wp2
        go_roundg (j - (h + 1))
        case measure => omega
        case rel => exact ⟨h + 1, j, by go_num, rfl, by omega, by omega, hjb, Nat.le_refl _, S1.out.grown nq osq, ⟨fun q h1 h2 => by rw [HXA.out]; exact HSL.out HT.out q h1 (by omega), HQ.out.2⟩⟩
    · have hij' : i = j := by omega
      subst hij'
      go_wp2
      go_loopg [17] (m - i) (fun kx s17 wr2 => ∃ (c : Nat) (dk : Array α), s17 = .int .i64 c ∧ i ≤ c ∧ c ≤ m ∧ c - i ≤ kx ∧ dk.size = d.size ∧ Aside (SWK enc k w0 blk off dk wr2) ∧ Aside (PermIn a b d dk ∧ ∀ p, p < d.size → dk[p]! = if p = c then d[m]! else if c < p ∧ p ≤ m then d[p - 1]! else d[p]!))
      case atStart => exact ⟨m, d, rfl, hjb, Nat.le_refl _, Nat.le_refl _, rfl, S1, ⟨permIn_refl d a b, fun p _ => by
        by_cases c : p = m
        · rw [if_pos c, c]
        · rw [if_neg c, if_neg (by omega)]⟩⟩
      case round =>
        clear S1
        obtain ⟨c, dk, rfl, hac, hci, hkc, hds, S1, HP⟩ := hrel
        by_cases hlc : i < c
        · have hp : c < d.size := by omega
          have hq : c - 1 < d.size := by omega
          have eq : (c : Int) - 1 = ((c - 1 : Nat) : Int) := by omega
          have S2 : Aside (SWK enc k w0 blk off (swp dk c (c - 1)) ((wr.drew.setCells blk (off + c * k) (enc dk[c - 1]!)).setCells blk (off + (c - 1) * k) (enc dk[c]!))) := S1.out.swapped HR.out c (c - 1) (by omega) (by omega)
          have P2 : Aside (PermIn a b d (swp dk c (c - 1)) ∧ ∀ p, p < d.size → (swp dk c (c - 1))[p]! = if p = c - 1 then d[m]! else if c - 1 < p ∧ p ≤ m then d[p - 1]! else d[p]!) :=
            ⟨permIn_trans _ _ _ a b HP.out.1 (swp_permIn dk a b c (c - 1) (by omega) (by omega) (by omega) (by omega) (by omega)), fun p hp => shr_step (by omega) (by omega) (by omega) hds HP.out.2 p hp⟩
          have hz2 : (swp dk c (c - 1)).size = d.size := by rw [swp_size]; exact hds
          have l44a := S1.out.ld1 HR.out (hds.trans HS.out) P c (by omega)
          have l44b := S1.out.ld1 HR.out (hds.trans HS.out) P (c - 1) (by omega)
          have s44a := S1.out.st1 HR.out (hds.trans HS.out) P c (by omega) dk[c - 1]!
          have s44b := S1.out.st2 HR.out (hds.trans HS.out) P c (c - 1) (by omega) (by omega) dk[c - 1]! dk[c]!
          have n44a : (enc dk[c]!).length = k := HR.out.hk _
          have n44b : (enc dk[c - 1]!).length = k := HR.out.hk _
          generalize enc dk[c]! = cI44 at S2 l44a s44b n44a
          generalize enc dk[c - 1]! = cJ44 at S2 l44b s44a s44b n44b
          generalize swp dk c (c - 1) = d2 at *
          have hqi : i ≤ c - 1 := by omega
          have haq : c - 1 ≤ m := by omega
          have hqm : c - 1 - i < c - i := by omega
          generalize c - 1 = q at *
          have ea44 : ((c : Int)).toNat = c := by omega
          have pa44 : (0 : Int) ≤ (c : Int) := by omega
          have ba44 : (c : Int) < (d.size : Int) := by omega
          have ra44 : IntKind.i64.wrap ((c : Int)) = (c : Int) := by rw [IntKind.wrap_i64]; omega
          have ec44 : ((q : Int)).toNat = q := by omega
          have pc44 : (0 : Int) ≤ (q : Int) := by omega
          have bc44 : (q : Int) < (d.size : Int) := by omega
          have rc44 : IntKind.i64.wrap ((q : Int)) = (q : Int) := by rw [IntKind.wrap_i64]; omega
          clear S1 HP
          go_wp2_with fail
          go_big_region_o
          clear l44a l44b s44a s44b
          generalize (wr.drew.setCells blk (off + c * k) cJ44).setCells blk (off + q * k) cI44 = w2 at S2 ⊢
          go_wp2
          go_roundg (q - i)
          case measure => omega
          case rel => exact ⟨q, d2, by first | rfl | go_num, hqi, haq, Nat.le_refl _, hz2, S2, P2⟩
        · have e : c = i := by omega
          subst e
          go_wp2
          refine bodyPost_ret (results_none rfl _ _ _) rfl ?_
          have M2 := HM.out
          refine ⟨rfl, dk, S1.out, ?_⟩
          rw [← hm] at M2 HP ⊢
          exact M2.one_right (i := c) hmi (by omega) HQ.out.1 HQ.out.2 HP.out.1 HP.out.2
end Go.Proofs.YthbekddpnkammaaDoor
