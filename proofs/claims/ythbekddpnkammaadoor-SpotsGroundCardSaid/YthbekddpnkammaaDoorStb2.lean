/- slices.symMergeCmpFunc at spots: its walk. -/
import Derived.Test.YthbekddpnkammaaDoorStb1
namespace Go.Proofs.YthbekddpnkammaaDoor
open Go.Shelf Go.RowKit Go.Lib Go.Sort

variable {α : Type} [Inhabited α] {P : Program} {k : Nat} {enc : α → List Value} {key : α → Int} {tag : α → Nat} {g : Nat} {cb : Array Value} {blk off : Nat} {d0 : Array α} {w0 : World}
omit [Inhabited α] in
theorem cmp_lt {x y : α} : Lib.compareInt (key y) (key x) < 0 ↔ brt key x y = true := by
  unfold Lib.compareInt brt
  by_cases h1 : key y < key x
  · simp [h1]
  · by_cases h2 : key x < key y <;> simp [h1, h2]
theorem shl_step {a c : Nat} {d dk : Array α} (hc : c + 1 < d.size) (hac : a ≤ c) (hs : dk.size = d.size) (h : ∀ p, p < d.size → dk[p]! = if a ≤ p ∧ p < c then d[p + 1]! else if p = c then d[a]! else d[p]!) (p : Nat) (hp : p < d.size) :
    (swp dk c (c + 1))[p]! = if a ≤ p ∧ p < c + 1 then d[p + 1]! else if p = c + 1 then d[a]! else d[p]! := by
  rw [swp_get dk (by omega) (by omega)]
  by_cases c1 : p = c + 1
  · rw [if_pos c1, h c (by omega), if_neg (by omega), if_pos rfl, if_neg (by omega), if_pos c1]
  · rw [if_neg c1]
    by_cases c2 : p = c
    · rw [if_pos c2, h (c + 1) (by omega), if_neg (by omega), if_neg (by omega), if_pos (by omega), c2]
    · rw [if_neg c2, h p hp]
      by_cases c3 : a ≤ p ∧ p < c
      · have c4 : a ≤ p ∧ p < c + 1 := by omega
        rw [if_pos c3, if_pos c4]
      · have c4 : ¬ (a ≤ p ∧ p < c + 1) := by omega
        rw [if_neg c3, if_neg c4, if_neg c2, if_neg c1]
theorem shr_step {m c : Nat} {d dk : Array α} (hm : m < d.size) (h0 : 0 < c) (hcm : c ≤ m) (hs : dk.size = d.size) (h : ∀ p, p < d.size → dk[p]! = if p = c then d[m]! else if c < p ∧ p ≤ m then d[p - 1]! else d[p]!) (p : Nat) (hp : p < d.size) :
    (swp dk c (c - 1))[p]! = if p = c - 1 then d[m]! else if c - 1 < p ∧ p ≤ m then d[p - 1]! else d[p]! := by
  rw [swp_get dk (by omega) (by omega)]
  by_cases c1 : p = c - 1
  · rw [if_pos c1, h c (by omega), if_pos rfl, if_pos c1]
  · rw [if_neg c1]
    by_cases c2 : p = c
    · rw [if_pos c2, h (c - 1) (by omega), if_neg (by omega), if_neg (by omega), if_neg c1, if_pos (by omega), c2]
    · rw [if_neg c2, h p hp, if_neg c2, if_neg c1]
      by_cases c3 : c < p ∧ p ≤ m
      · have c4 : c - 1 < p ∧ p ≤ m := by omega
        rw [if_pos c3, if_pos c4]
      · have c4 : ¬ (c - 1 < p ∧ p ≤ m) := by omega
        rw [if_neg c3, if_neg c4]
theorem u64_in {q : Nat} (h : q ≤ 1000000) : IntKind.u64.wrap (q : Int) = (q : Int) := by
  simp [IntKind.wrap, IntKind.bits, IntKind.signed]; omega
set_option maxHeartbeats 4000000 in
set_option maxRecDepth 1000000 in
/-- One element on the left. -/
theorem sym_left (L : SrtL P k) (R : SR P k enc key g cb blk off d0 w0) (cap a b : Nat) (d : Array α) (w : World) (hs : d.size = d0.size) (S : SWK enc k w0 blk off d w) (hb : a + 1 < b) (M : MG key tag a (a + 1) b d) :
    Calls P 44 #[.slice (some ⟨blk, off, none⟩) d.size cap, .int .i64 a, .int .i64 (a + 1 : Nat), .int .i64 b, .func (.func g) #[] cb] w fun e w' =>
      e = .returned (.tuple #[]) ∧ ∃ d' : Array α, SWK enc k w0 blk off d' w' ∧ Merged key tag a b d d' := by
  have mixed := L.mixed; have t0 := L.t0; have a0 := L.a0; have z0 := L.z0; have v0 := L.v0; have t3 := L.t3; have a3 := L.a3; have z3 := L.z3; have v3 := L.v3; have t4 := L.t4; have a4 := L.a4; have z4 := L.z4; have v4 := L.v4; have t9 := L.t9; have a9 := L.a9; have z9 := L.z9; have v9 := L.v9; have tS := L.tS; have aS := L.aS; have zS := L.zS; have vS := L.vS; have tF := L.tF; have aF := L.aF; have zF := L.zF; have vF := L.vF; have aE := L.aE; have zE := L.zE; have FG := L.fSym
  have u9 := run_underlying L.t9
  have hsz := R.sz
  have hdz : d.size ≤ 100000 := by omega
  have hbs := M.bs
  have HR : Aside _ := R.row
  have HC : Aside _ := R.cmp
  have EG : Aside _ := R.eg
  have HM : Aside (MG key tag a (a + 1) b d) := M
  have HS : Aside (d.size = d0.size) := hs
  have S0 : Aside (SWK enc k w0 blk off d w) := S
  have c0 : ((a + 1 : Nat) : Int) - (a : Int) = 1 := by omega
  have eg := R.eg
  clear S L R M hs hsz
  generalize hm : a + 1 = m at *
  go_enter FG, Tryd.ntmps44
  go_wp2
  go_loopg [10, 11] (b - m) (fun kx s10 s11 wr => ∃ i j : Nat, s10 = .int .i64 i ∧ s11 = .int .i64 j ∧ m ≤ i ∧ i ≤ j ∧ j ≤ b ∧ j - i ≤ kx ∧ Aside (SWK enc k w0 blk off d wr) ∧ Aside ((∀ q, m ≤ q → q < i → ahd key tag d[q]! d[a]! = true) ∧ ∀ q, j ≤ q → q < b → ahd key tag d[q]! d[a]! = false))
  case atStart => exact ⟨m, b, rfl, rfl, Nat.le_refl _, by omega, Nat.le_refl _, Nat.le_refl _, S0, ⟨fun q h1 h2 => by omega, fun q h1 h2 => by omega⟩⟩
  case round =>
    clear S0
    obtain ⟨i, j, rfl, rfl, hmi, hij, hjb, hkx, S1, HQ⟩ := hrel
    by_cases hlt : i < j
    · have e1 : (i : Int) + (j : Int) = ((i + j : Nat) : Int) := by omega
      obtain ⟨h, hh⟩ : ∃ h, (i + j) / 2 = h := ⟨_, rfl⟩
      have e3 : ((i + j : Nat) : Int) / 2 = (h : Int) := by omega
      have hih : i ≤ h ∧ h < j := by omega
      have e2 := u64_in (show i + j ≤ 1000000 by omega)
      have lh := S1.out.ld HR.out HS.out P h (by omega)
      have la := S1.out.ld HR.out HS.out P a (by omega)
      have hcg := S1.out.cmp HC.out HS.out d[h]! d[a]!
      have HX : Aside (brt key d[h]! d[a]! = ahd key tag d[h]! d[a]!) := ahd_brt (HM.out.tags a h (Nat.le_refl _) (by omega) (by omega) (by omega))
      have HXC := Lib.hid (cmp_lt (key := key) (x := d[h]!) (y := d[a]!))
      have HSL := Lib.hid (fun (hx : ahd key tag d[h]! d[a]! = true) q h1 h2 => search_left (q := q) HM.out.right (by omega) hx h1 h2)
      have HSR := Lib.hid (fun (hx : ahd key tag d[h]! d[a]! = false) q h1 h2 => search_right (q := q) HM.out.right (by omega) hx h1 h2)
      clear hh
      generalize i + j = q at *
      have ph : (0 : Int) ≤ (h : Int) := by omega
      have bh : (h : Int) < (d.size : Int) := by omega
      have pa : (0 : Int) ≤ (a : Int) := by omega
      have ba : (a : Int) < (d.size : Int) := by omega
      have nh : (enc d[h]!).length = k := HR.out.hk _
      have na : (enc d[a]!).length = k := HR.out.hk _
      obtain ⟨xh, hxh⟩ : ∃ x, d[h]! = x := ⟨_, rfl⟩
      obtain ⟨xa, hxa⟩ : ∃ x, d[a]! = x := ⟨_, rfl⟩
      rw [hxh, hxa] at hcg HXC HX HSL HSR
      rw [hxh] at lh nh
      rw [hxa] at la na
      have HXA := Lib.hid hxa
      clear hxh hxa
      by_cases hlv : Lib.compareInt (key xa) (key xh) < 0
      · have HT := Lib.hid (HX.out.symm.trans (HXC.out.1 hlv))
        go_wp2_with fail
        go_quiet_grown (first | (go_at_fn g; refine Calls.grown_of (hcg _ _)))
        go_wp2
        go_roundg (j - (h + 1))
        case measure => omega
        case rel => exact ⟨h + 1, j, by go_num, rfl, by omega, by omega, hjb, Nat.le_refl _, S1.out.grown nq osq, ⟨fun q h1 h2 => by rw [HXA.out]; exact HSL.out HT.out q h1 (by omega), HQ.out.2⟩⟩
      · have HT : Hid (ahd key tag xh xa = false) := Lib.hid (by rw [← HX.out]; cases z : brt key xh xa with
          | false => rfl
          | true => exact absurd (HXC.out.2 z) hlv)
        go_wp2_with fail
        go_quiet_grown (first | (go_at_fn g; refine Calls.grown_of (hcg _ _)))
        go_wp2
        go_roundg (h - i)
        case measure => omega
        case rel => exact ⟨i, h, rfl, by go_num, hmi, by omega, by omega, Nat.le_refl _, S1.out.grown nq osq, ⟨HQ.out.1, fun q h1 h2 => by rw [HXA.out]; exact HSR.out HT.out q h1 h2⟩⟩
    · have hij' : i = j := by omega
      subst hij'
      have e1 : (i : Int) - 1 = ((i - 1 : Nat) : Int) := by omega
      have HI1 := Lib.hid (show i - 1 + 1 = i by omega)
      have hi1 : a ≤ i - 1 := by omega
      have hi2 : i - 1 < b := by omega
      generalize i - 1 = i1 at *
      go_wp2
      go_loopg [13] (i1 - a) (fun kx s13 wr2 => ∃ (c : Nat) (dk : Array α), s13 = .int .i64 c ∧ a ≤ c ∧ c ≤ i1 ∧ i1 - c ≤ kx ∧ dk.size = d.size ∧ Aside (SWK enc k w0 blk off dk wr2) ∧ Aside (PermIn a b d dk ∧ ∀ p, p < d.size → dk[p]! = if a ≤ p ∧ p < c then d[p + 1]! else if p = c then d[a]! else d[p]!))
      case atStart => exact ⟨a, d, rfl, Nat.le_refl _, hi1, Nat.le_refl _, rfl, S1, ⟨permIn_refl d a b, fun p _ => by rw [if_neg (by omega)]; split <;> simp_all⟩⟩
      case round =>
        clear S1
        obtain ⟨c, dk, rfl, hac, hci, hkc, hds, S1, HP⟩ := hrel
        by_cases hlc : c < i1
        · have hp : c < d.size := by omega
          have hq : c + 1 < d.size := by omega
          have eq : (c : Int) + 1 = ((c + 1 : Nat) : Int) := by push_cast; rfl
          have S2 : Aside (SWK enc k w0 blk off (swp dk c (c + 1)) ((wr.drew.setCells blk (off + c * k) (enc dk[c + 1]!)).setCells blk (off + (c + 1) * k) (enc dk[c]!))) := S1.out.swapped HR.out c (c + 1) (by omega) (by omega)
          have P2 : Aside (PermIn a b d (swp dk c (c + 1)) ∧ ∀ p, p < d.size → (swp dk c (c + 1))[p]! = if a ≤ p ∧ p < c + 1 then d[p + 1]! else if p = c + 1 then d[a]! else d[p]!) :=
            ⟨permIn_trans _ _ _ a b HP.out.1 (swp_permIn dk a b c (c + 1) (by omega) (by omega) (by omega) (by omega) (by omega)), fun p hp => shl_step hq hac hds HP.out.2 p hp⟩
          have hz2 : (swp dk c (c + 1)).size = d.size := by rw [swp_size]; exact hds
          have l44a := S1.out.ld1 HR.out (hds.trans HS.out) P c (by omega)
          have l44b := S1.out.ld1 HR.out (hds.trans HS.out) P (c + 1) (by omega)
          have s44a := S1.out.st1 HR.out (hds.trans HS.out) P c (by omega) dk[c + 1]!
          have s44b := S1.out.st2 HR.out (hds.trans HS.out) P c (c + 1) (by omega) (by omega) dk[c + 1]! dk[c]!
          have n44a : (enc dk[c]!).length = k := HR.out.hk _
          have n44b : (enc dk[c + 1]!).length = k := HR.out.hk _
          generalize enc dk[c]! = cI44 at S2 l44a s44b n44a
          generalize enc dk[c + 1]! = cJ44 at S2 l44b s44a s44b n44b
          generalize swp dk c (c + 1) = d2 at *
          have HC1 := Lib.hid (show c + 1 = c + 1 from rfl)
          obtain ⟨q, hqe⟩ : ∃ q, c + 1 = q := ⟨_, rfl⟩
          rw [hqe] at S2 l44b s44b hq eq
          have HQE := Lib.hid hqe
          have hqi : q ≤ i1 := by omega
          have haq : a ≤ q := by omega
          have hqm : i1 - q < i1 - c := by omega
          clear hqe
          have ea44 : ((c : Int)).toNat = c := by omega
          have pa44 : (0 : Int) ≤ (c : Int) := by omega
          have ba44 : (c : Int) < (d.size : Int) := by omega
          have ra44 : IntKind.i64.wrap ((c : Int)) = (c : Int) := by rw [IntKind.wrap_i64]; omega
          have ec44 : ((q : Int)).toNat = q := by omega
          have pc44 : (0 : Int) ≤ (q : Int) := by omega
          have bc44 : (q : Int) < (d.size : Int) := by omega
          have rc44 : IntKind.i64.wrap ((q : Int)) = (q : Int) := by rw [IntKind.wrap_i64]; omega
          clear S1 HP
          go_wp2_with fail
          go_big_region_o
          clear l44a l44b s44a s44b
          generalize (wr.drew.setCells blk (off + c * k) cJ44).setCells blk (off + q * k) cI44 = w2 at S2 ⊢
          go_wp2
          go_roundg (i1 - q)
          case measure => omega
          case rel => exact ⟨q, d2, by first | rfl | go_num, haq, hqi, Nat.le_refl _, hz2, S2, by rw [← HQE.out]; exact P2⟩
        · have e : c = i1 := by omega
          subst e
          go_wp2
          refine bodyPost_ret (results_none rfl _ _ _) rfl ?_
          have M2 := HM.out
          rw [← hm] at M2
          have hci : c + 1 = i := HI1.out
          subst hci
          exact ⟨rfl, dk, S1.out, M2.one_left (i := c + 1) (by omega) hjb (by rw [hm]; exact HQ.out.1) HQ.out.2 HP.out.1 (fun p hp => by
            rw [HP.out.2 p hp]
            simp only [Nat.add_lt_add_iff_right, Nat.add_right_cancel_iff])⟩
end Go.Proofs.YthbekddpnkammaaDoor
