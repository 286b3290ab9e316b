/- slices.swapRangeCmpFunc and rotateCmpFunc at spots: their walks. -/
import Derived.Test.YthbekddpnkammaaDoorStbL
import Derived.Sort.WalkB2
import Derived.Sort.WalkB12
namespace Go.Proofs.YthbekddpnkammaaDoor
open Go.Shelf Go.RowKit Go.Lib Go.Sort

variable {α : Type} [Inhabited α] {P : Program} {k : Nat} {enc : α → List Value} {key : α → Int} {g : Nat} {cb : Array Value} {blk off : Nat} {d0 : Array α} {w0 : World}
set_option maxHeartbeats 4000000 in
set_option maxRecDepth 1000000 in
theorem swapRange_any (L : SrtL P k) (R : SR P k enc key g cb blk off d0 w0) (cap a b n : Nat) (d : Array α) (w : World) (hs : d.size = d0.size) (S : SWK enc k w0 blk off d w) (hab : a + n ≤ b) (hb : b + n ≤ d.size) (lo hi : Nat) (hlo : lo ≤ a) (hhi : b + n ≤ hi) (hhs : hi ≤ d.size) :
    Calls P 61 #[.slice (some ⟨blk, off, none⟩) d.size cap, .int .i64 a, .int .i64 b, .int .i64 n, .func (.func g) #[] cb] w fun e w' =>
      e = .returned (.tuple #[]) ∧ ∃ d' : Array α, SWK enc k w0 blk off d' w' ∧ PermIn lo hi d d' ∧ ∀ p, p < d.size → d'[p]! = swR d a b n p := by
  have mixed := L.mixed; have t0 := L.t0; have a0 := L.a0; have z0 := L.z0; have v0 := L.v0; have t3 := L.t3; have a3 := L.a3; have z3 := L.z3; have v3 := L.v3; have t4 := L.t4; have a4 := L.a4; have z4 := L.z4; have v4 := L.v4; have tS := L.tS; have aS := L.aS; have zS := L.zS; have vS := L.vS; have tF := L.tF; have aF := L.aF; have zF := L.zF; have vF := L.vF; have aE := L.aE; have zE := L.zE; have FG := L.fSwr
  have hsz := R.sz
  have HR : Aside _ := R.row
  have S0 : Aside (SWK enc k w0 blk off d w) := S
  have HI : Aside (lo ≤ a ∧ b + n ≤ hi ∧ hi ≤ d.size ∧ a + n ≤ b) := ⟨hlo, hhi, hhs, hab⟩
  clear S L R hlo hhi hhs
  go_enter FG, Tryd.ntmps61
  go_wp2
  go_loopg [10] n (fun kx s10 wr => ∃ (i : Nat) (dk : Array α), s10 = .int .i64 i ∧ i ≤ n ∧ n - i ≤ kx ∧ dk.size = d.size ∧ Aside (SWK enc k w0 blk off dk wr) ∧ Aside (PermIn lo hi d dk ∧ ∀ p, p < d.size → dk[p]! = swR d a b i p))
  case atStart => exact ⟨0, d, rfl, Nat.zero_le _, by omega, rfl, S0, ⟨permIn_refl d lo hi, fun p _ => (swR_zero a b p).symm⟩⟩
  case round =>
    clear S0
    obtain ⟨i, dk, rfl, hin, hkx, hds, S1, HP⟩ := hrel
    by_cases hlt : i < n
    · have hltz : (i : Int) < (n : Int) := by omega
      have ep : (a : Int) + (i : Int) = ((a + i : Nat) : Int) := by push_cast; rfl
      have eq : (b : Int) + (i : Int) = ((b + i : Nat) : Int) := by push_cast; rfl
      have S2 : Aside (SWK enc k w0 blk off (swp dk (a + i) (b + i)) ((wr.drew.setCells blk (off + (a + i) * k) (enc dk[b + i]!)).setCells blk (off + (b + i) * k) (enc dk[a + i]!))) := S1.out.swapped HR.out (a + i) (b + i) (by omega) (by omega)
      have P2 : Aside (PermIn lo hi d (swp dk (a + i) (b + i)) ∧ ∀ p, p < d.size → (swp dk (a + i) (b + i))[p]! = swR d a b (i + 1) p) :=
        ⟨permIn_trans _ _ _ lo hi HP.out.1 (swp_permIn dk lo hi (a + i) (b + i) (by have := HI.out; omega) (by have := HI.out; omega) (by have := HI.out; omega) (by have := HI.out; omega) (by have := HI.out; omega)), fun p hp => swR_step hab hb hds hlt HP.out.2 p hp⟩
      have hz2 : (swp dk (a + i) (b + i)).size = d.size := by rw [swp_size]; exact hds
      have l44a := S1.out.ld1 HR.out (by omega) P (a + i) (by omega)
      have l44b := S1.out.ld1 HR.out (by omega) P (b + i) (by omega)
      have s44a := S1.out.st1 HR.out (by omega) P (a + i) (by omega) dk[b + i]!
      have s44b := S1.out.st2 HR.out (by omega) P (a + i) (b + i) (by omega) (by omega) dk[b + i]! dk[a + i]!
      have n44a : (enc dk[a + i]!).length = k := HR.out.hk _
      have n44b : (enc dk[b + i]!).length = k := HR.out.hk _
      generalize enc dk[a + i]! = cI44 at S2 l44a s44b n44a
      generalize enc dk[b + i]! = cJ44 at S2 l44b s44a s44b n44b
      generalize swp dk (a + i) (b + i) = d2 at *
      have hp : a + i < d.size := by omega
      have hq : b + i < d.size := by omega
      generalize a + i = p at *
      generalize b + i = q at *
      have ea44 : ((p : Int)).toNat = p := by omega
      have pa44 : (0 : Int) ≤ (p : Int) := by omega
      have ba44 : (p : Int) < (d.size : Int) := by omega
      have ra44 : IntKind.i64.wrap ((p : Int)) = (p : Int) := by rw [IntKind.wrap_i64]; omega
      have ec44 : ((q : Int)).toNat = q := by omega
      have pc44 : (0 : Int) ≤ (q : Int) := by omega
      have bc44 : (q : Int) < (d.size : Int) := by omega
      have rc44 : IntKind.i64.wrap ((q : Int)) = (q : Int) := by rw [IntKind.wrap_i64]; omega
      clear S1 HP
      go_wp2_with fail
      go_big_region_o
      clear l44a l44b s44a s44b
      generalize (wr.drew.setCells blk (off + p * k) cJ44).setCells blk (off + q * k) cI44 = w2 at S2 ⊢
      go_wp2
      go_roundg (n - (i + 1))
      case measure => omega
      case rel => exact ⟨i + 1, d2, by go_num, by omega, Nat.le_refl _, hz2, S2, P2⟩
    · have e : i = n := by omega
      subst e
      go_wp2
      go_end0
      exact ⟨rfl, dk, S1.out, HP.out⟩

set_option maxHeartbeats 4000000 in
set_option maxRecDepth 1000000 in
theorem rotate_any (L : SrtL P k) (R : SR P k enc key g cb blk off d0 w0) (cap a m b : Nat) (d : Array α) (w : World) (hs : d.size = d0.size) (S : SWK enc k w0 blk off d w) (ham : a < m) (hmb : m < b) (hb : b ≤ d.size) (lo hi : Nat) (hlo : lo ≤ a) (hhi : b ≤ hi) (hhs : hi ≤ d.size) :
    Calls P 55 #[.slice (some ⟨blk, off, none⟩) d.size cap, .int .i64 a, .int .i64 m, .int .i64 b, .func (.func g) #[] cb] w fun e w' =>
      e = .returned (.tuple #[]) ∧ ∃ d' : Array α, SWK enc k w0 blk off d' w' ∧ PermIn lo hi d d' ∧ ∀ p, p < d.size → d'[p]! = rotT d a m b p := by
  have hsz := R.sz
  have e20 : ∀ args w, (callFunc 61 args).run P w = .ok (.enter 61 args) w := enters_of L.fSwr (by kernel_rfl) rfl
  have HSw : Aside (∀ (a b n : Nat) (dk : Array α) (w : World), dk.size = d.size → SWK enc k w0 blk off dk w → a + n ≤ b → b + n ≤ d.size → lo ≤ a → b + n ≤ hi → Calls P 61 #[.slice (some ⟨blk, off, none⟩) d.size cap, .int .i64 a, .int .i64 b, .int .i64 n, .func (.func g) #[] cb] w fun e w' =>
      e = .returned (.tuple #[]) ∧ ∃ d' : Array α, SWK enc k w0 blk off d' w' ∧ PermIn lo hi dk d' ∧ ∀ p, p < dk.size → d'[p]! = swR dk a b n p) := fun a b n dk w h1 h2 h3 h4 h5 h6 => by
    rw [← h1]
    exact swapRange_any L R cap a b n dk w (h1.trans hs) h2 h3 (by omega) lo hi h5 h6 (by omega)
  have mixed := L.mixed; have t0 := L.t0; have a0 := L.a0; have z0 := L.z0; have v0 := L.v0; have t3 := L.t3; have a3 := L.a3; have z3 := L.z3; have v3 := L.v3; have t4 := L.t4; have a4 := L.a4; have z4 := L.z4; have v4 := L.v4; have tS := L.tS; have aS := L.aS; have zS := L.zS; have vS := L.vS; have tF := L.tF; have aF := L.aF; have zF := L.zF; have vF := L.vF; have FG := L.fRot
  have S0 : Aside (SWK enc k w0 blk off d w) := S
  have hdz : d.size ≤ 100000 := by omega
  clear hs hsz
  have hi0 : (m : Int) - (a : Int) = ((m - a : Nat) : Int) := by omega
  have hj0 : (b : Int) - (m : Int) = ((b - m : Nat) : Int) := by omega
  have HI0 : Aside (m - (m - a) = a ∧ m + (b - m) = b) := ⟨by omega, by omega⟩
  clear S L R
  go_enter FG, Tryd.ntmps55
  go_wp2
  go_loopg [10, 11] (b - a) (fun kx s10 s11 wr => ∃ (i j : Nat) (dk : Array α), s10 = .int .i64 i ∧ s11 = .int .i64 j ∧ 0 < i ∧ 0 < j ∧ a + i ≤ m ∧ m + j ≤ b ∧ i + j ≤ kx ∧ dk.size = d.size ∧ Aside (SWK enc k w0 blk off dk wr) ∧ Aside (PermIn lo hi d dk ∧ ∀ p, p < d.size → rotT dk (m - i) m (m + j) p = rotT d a m b p))
  case atStart => exact ⟨m - a, b - m, d, by go_num, by go_num, by omega, by omega, by omega, by omega, by omega, rfl, S0, ⟨permIn_refl d lo hi, fun p _ => by rw [HI0.out.1, HI0.out.2]⟩⟩
  case round =>
    clear S0 hi0 hj0 HI0
    obtain ⟨i, j, dk, rfl, rfl, hi1, hj1, hai, hjb, hkx, hds, S1, HP⟩ := hrel
    have b1 : (m : Int) - (i : Int) = ((m - i : Nat) : Int) := by omega
    rcases Nat.lt_trichotomy i j with hlt | heq | hgt
    · have c1 : ((i : Int) != (j : Int)) = true := by rw [bne_iff_ne]; omega
      have c2 : decide ((j : Int) < (i : Int)) = false := by simp; omega
      have b2 : (m : Int) + (j : Int) = ((m + j : Nat) : Int) := by omega
      have b3 : ((m + j : Nat) : Int) - (i : Int) = ((m + j - i : Nat) : Int) := by omega
      have b4 : (j : Int) - (i : Int) = ((j - i : Nat) : Int) := by omega
      have b5 : 0 < j - i ∧ j - i ≤ j ∧ m + (j - i) ≤ b ∧ i + (j - i) < i + j := by omega
      have b6 : m + j ≤ 100000 ∧ m + j - i ≤ 100000 := by omega
      have HC := Lib.hid (HSw.out (m - i) (m + j - i) i dk wr hds S1.out (by omega) (by omega) (by omega) (by omega))
      have HRT := Lib.hid (fun d' h => rot_right (m := m) (i := i) (j := j) (dk := dk) (dk' := d') (by omega) (by omega) (by omega) h)
      have HP2 : Aside (∀ d2 : Array α, PermIn lo hi dk d2 → (∀ p, p < dk.size → d2[p]! = swR dk (m - i) (m + j - i) i p) → PermIn lo hi d d2 ∧ ∀ p, p < d.size → rotT d2 (m - i) m (m + (j - i)) p = rotT d a m b p) := fun d2 P2 r2 => ⟨permIn_trans _ _ _ lo hi HP.out.1 P2, fun p hp => (HRT.out d2 r2 p (by omega)).trans (HP.out.2 p hp)⟩
      clear HRT HP S1
      obtain ⟨mi, hmi⟩ : ∃ x, m - i = x := ⟨_, rfl⟩
      rw [hmi] at HC HP2 b1
      have HMI := Lib.hid hmi
      clear hmi
      generalize m + j - i = mj at *
      generalize m + j = q at *
      generalize j - i = jj at *
      go_wp2_with (first | (go_at_call 61; refine HC.out.mono ?_; rintro e w2 ⟨rfl, d2, S2, P2, r2⟩))
      have SS : Aside (SWK enc k w0 blk off d2 w2) := S2
      have hz2 : d2.size = d.size := P2.1.trans hds
      have PP : Aside _ := HP2.out d2 P2 r2
      clear S2 P2 r2 HC HP2
      go_roundg (i + jj)
      case measure => omega
      case rel => exact ⟨i, jj, d2, rfl, by first | rfl | go_num, hi1, b5.1, hai, b5.2.2.1, Nat.le_refl _, hz2, SS, by rw [HMI.out]; exact PP⟩
    · subst heq
      have c1 : ((i : Int) != (i : Int)) = false := by simp
      have HC := Lib.hid (HSw.out (m - i) m i dk wr hds S1.out (by omega) (by omega) (by omega) (by omega))
      have HRT := Lib.hid (fun d' h => rot_same (m := m) (i := i) (dk := dk) (dk' := d') (by omega) h)
      have HP2 : Aside (∀ d2 : Array α, PermIn lo hi dk d2 → (∀ p, p < dk.size → d2[p]! = swR dk (m - i) m i p) → PermIn lo hi d d2 ∧ ∀ p, p < d.size → d2[p]! = rotT d a m b p) := fun d2 P2 r2 => ⟨permIn_trans _ _ _ lo hi HP.out.1 P2, fun p hp => (HRT.out d2 r2 p (by omega)).trans (HP.out.2 p hp)⟩
      clear HRT HP S1
      generalize m - i = mi at *
      go_wp2_with (first | (go_at_call 61; refine HC.out.mono ?_; rintro e w2 ⟨rfl, d2, S2, P2, r2⟩))
      have PP : Aside _ := HP2.out d2 P2 r2
      go_end0
      exact ⟨rfl, d2, S2, PP.out⟩
    · have c1 : ((i : Int) != (j : Int)) = true := by rw [bne_iff_ne]; omega
      have c2 : decide ((j : Int) < (i : Int)) = true := by simp; omega
      have b4 : (i : Int) - (j : Int) = ((i - j : Nat) : Int) := by omega
      have b5 : 0 < i - j ∧ i - j ≤ i ∧ a + (i - j) ≤ m ∧ (i - j) + j < i + j := by omega
      have HC := Lib.hid (HSw.out (m - i) m j dk wr hds S1.out (by omega) (by omega) (by omega) (by omega))
      have HRT := Lib.hid (fun d' h => rot_left (m := m) (i := i) (j := j) (dk := dk) (dk' := d') (by omega) (by omega) (by omega) h)
      have HP2 : Aside (∀ d2 : Array α, PermIn lo hi dk d2 → (∀ p, p < dk.size → d2[p]! = swR dk (m - i) m j p) → PermIn lo hi d d2 ∧ ∀ p, p < d.size → rotT d2 (m - (i - j)) m (m + j) p = rotT d a m b p) := fun d2 P2 r2 => ⟨permIn_trans _ _ _ lo hi HP.out.1 P2, fun p hp => (HRT.out d2 r2 p (by omega)).trans (HP.out.2 p hp)⟩
      clear HRT HP S1
      generalize m - i = mi at *
      generalize i - j = ij at *
      go_wp2_with (first | (go_at_call 61; refine HC.out.mono ?_; rintro e w2 ⟨rfl, d2, S2, P2, r2⟩))
      have SS : Aside (SWK enc k w0 blk off d2 w2) := S2
      have hz2 : d2.size = d.size := P2.1.trans hds
      have PP : Aside _ := HP2.out d2 P2 r2
      clear S2 P2 r2 HC HP2
      go_roundg (ij + j)
      case measure => omega
      case rel => exact ⟨ij, j, d2, by first | rfl | go_num, rfl, b5.1, hj1, b5.2.2.1, hjb, Nat.le_refl _, hz2, SS, PP⟩
end Go.Proofs.YthbekddpnkammaaDoor
