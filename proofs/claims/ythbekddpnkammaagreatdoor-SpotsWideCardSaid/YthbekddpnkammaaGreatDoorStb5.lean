/- slices.SortStableFunc at spots: it sorts, and keeps the order of equals. -/
import Derived.Test.YthbekddpnkammaaGreatDoorStb4
namespace Go.Proofs.YthbekddpnkammaaGreatDoor
open Go.Shelf Go.RowKit Go.Lib Go.Sort

variable {α : Type} [Inhabited α] {P : Program} {k : Nat} {enc : α → List Value} {key : α → Int} {tag : α → Nat} {g : Nat} {cb : Array Value} {blk off : Nat} {d0 : Array α} {w0 : World}
theorem sym_any (L : SrtL P k) (R : SR P k enc key g cb blk off d0 w0) (cap : Nat) : ∀ s, SymOk P k enc key tag g cb blk off cap d0 w0 s
  | 0 => fun a m b d w h _ _ h1 h2 => by omega
  | s + 1 => fun a m b d w h hs S h1 h2 M => by
    by_cases c1 : m = a + 1
    · subst c1
      rw [← hs]
      exact sym_left L R cap a b d w hs S h2 M
    · by_cases c2 : b = m + 1
      · subst c2
        rw [← hs]
        exact sym_right L R cap a m d w hs S (by omega) M
      · exact sym_step L R cap s (sym_any L R cap s) a m b d w h hs S (by omega) (by omega) M
set_option maxHeartbeats 16000000 in
set_option maxRecDepth 1000000 in
theorem stable_any (L : SrtL P k) (R : SR P k enc key g cb blk off d0 w0) (cap n : Nat) (d : Array α) (w : World) (hn : d.size = n) (hs : d.size = d0.size) (S : SWK enc k w0 blk off d w) (hT : ∀ p, p < n → tag d[p]! = p) :
    Calls P 82 #[.slice (some ⟨blk, off, none⟩) n cap, .int .i64 n, .func (.func g) #[] cb] w fun e w' =>
      e = .returned (.tuple #[]) ∧ ∃ d' : Array α, SWK enc k w0 blk off d' w' ∧ PermIn 0 n d d' ∧ SortedIn (ahd key tag) 0 n d' := by
  have mixed := L.mixed; have t0 := L.t0; have a0 := L.a0; have z0 := L.z0; have v0 := L.v0; have t3 := L.t3; have a3 := L.a3; have z3 := L.z3; have v3 := L.v3; have t4 := L.t4; have a4 := L.a4; have z4 := L.z4; have v4 := L.v4; have tS := L.tS; have aS := L.aS; have zS := L.zS; have vS := L.vS; have tF := L.tF; have aF := L.aF; have zF := L.zF; have vF := L.vF; have aE := L.aE; have zE := L.zE; have FG := L.fStb
  have eI : ∀ args w, (callFunc 120 args).run P w = .ok (.enter 120 args) w := enters_of L.fIns (by kernel_rfl) rfl
  have eS : ∀ args w, (callFunc 121 args).run P w = .ok (.enter 121 args) w := enters_of L.fSym (by kernel_rfl) rfl
  have hsz := R.sz
  have hnz : n ≤ 100000 := by omega
  have HI : Aside (∀ (a b : Nat) (dk : Array α) (w : World), dk.size = n → SWK enc k w0 blk off dk w → a ≤ b → b ≤ n → Calls P 120 #[.slice (some ⟨blk, off, none⟩) n cap, .int .i64 a, .int .i64 b, .func (.func g) #[] cb] w fun e w' => e = .returned (.tuple #[]) ∧ SWK enc k w0 blk off (insertionSort (brt key) dk a b) w') := fun a b dk w h1 h2 h3 h4 => by
    rw [← h1]
    exact ins_any L R cap a b dk w (by omega) h2 h3 (by omega)
  have HM : Aside (∀ (a m b : Nat) (dk : Array α) (w : World), dk.size = n → SWK enc k w0 blk off dk w → a < m → m < b → MG key tag a m b dk → Calls P 121 #[.slice (some ⟨blk, off, none⟩) n cap, .int .i64 a, .int .i64 m, .int .i64 b, .func (.func g) #[] cb] w fun e w' => e = .returned (.tuple #[]) ∧ ∃ d' : Array α, SWK enc k w0 blk off d' w' ∧ Merged key tag a b dk d') := fun a m b dk w h1 h2 h3 h4 h5 => by
    have h := sym_any L R cap (b - a) a m b dk w (Nat.le_refl _) (by omega) h2 h3 h4 h5
    rwa [← hs, hn] at h
  have S0 : Aside (SWK enc k w0 blk off d w) := S
  have HN : Aside (d.size = n) := hn
  have HIK : Aside (Ik key tag 20 (20 * 0) n d) := Ik.start hn hT
  clear S L R hs hn hsz hT
  go_enter FG, Tryz.ntmps82
  go_wp2
  go_loopg [7, 8] (n + 20) (fun kx s7 s8 wr => ∃ (c a b : Nat) (dk : Array α), s7 = .int .i64 a ∧ s8 = .int .i64 b ∧ a ≤ n ∧ n - a ≤ kx ∧ Aside (b = a + 20) ∧ Aside (a = 20 * c ∧ Ik key tag 20 a n dk ∧ PermIn 0 n d dk) ∧ Aside (SWK enc k w0 blk off dk wr))
  case atStart => exact ⟨0, 0, 20, d, rfl, rfl, Nat.zero_le _, by omega, rfl, ⟨rfl, HIK.out, permIn_refl d 0 n⟩, S0⟩
  case round =>
    clear S0 HIK
    obtain ⟨c, a, b, dk, rfl, rfl, han, hkx, HAB, HQ, S1⟩ := hrel
    have hab : a ≤ b ∧ b ≤ 200000 := by have := HAB.out; omega
    by_cases hlt : b ≤ n
    · have HC := Lib.hid (HI.out a b dk wr HQ.out.2.1.sz S1.out hab.1 hlt)
      have HQ2 : Aside (b = 20 * (c + 1) ∧ Ik key tag 20 b n (insertionSort (brt key) dk a b) ∧ PermIn 0 n d (insertionSort (brt key) dk a b)) := by
        obtain ⟨q1, q2, q3⟩ := HQ.out
        have hz := q2.sz
        have eb : b = 20 * (c + 1) := by have := HAB.out; omega
        refine ⟨eb, ?_, ?_⟩
        · have h := Ik.step (c := c) (b := b) (by rw [← q1]; exact q2) (by omega) hlt (by omega) (by omega) (by omega)
          rw [← eb, ← q1] at h
          exact h
        · exact permIn_trans _ _ _ 0 n q3 (permIn_mono _ _ a b 0 n (Nat.zero_le _) hlt (by omega) (insertionSort_holds swo_brt dk a b hab.1 (by omega)).1)
      clear HQ S1
      go_wp2_with fail
      refine HC.out.mono ?_; rintro e w2 ⟨rfl, S2⟩
      have SS : Aside (SWK enc k w0 blk off (insertionSort (brt key) dk a b) w2) := S2
      generalize insertionSort (brt key) dk a b = d2 at *
      clear S2 HC
      go_wp2
      go_roundg (n - b)
      case measure => have := HAB.out; omega
      case rel => exact ⟨c + 1, b, b + 20, d2, rfl, by go_num, hlt, Nat.le_refl _, rfl, HQ2, SS⟩
    · have HC := Lib.hid (HI.out a n dk wr HQ.out.2.1.sz S1.out han (Nat.le_refl _))
      have HQ2 : Aside (Bk key tag 20 0 n (insertionSort (brt key) dk a n) ∧ PermIn 0 n d (insertionSort (brt key) dk a n)) := by
        obtain ⟨q1, q2, q3⟩ := HQ.out
        have hz := q2.sz
        have hb := HAB.out
        refine ⟨?_, ?_⟩
        · have h := Ik.step (c := c) (b := n) (by rw [← q1]; exact q2) (by omega) (Nat.le_refl _) (by omega) (by omega) (Or.inr rfl)
          rw [← q1] at h
          exact h.blocks (by omega)
        · exact permIn_trans _ _ _ 0 n q3 (permIn_mono _ _ a n 0 n (Nat.zero_le _) (Nat.le_refl _) (by omega) (insertionSort_holds swo_brt dk a n han (by omega)).1)
      clear HQ S1
      go_wp2_with fail
      refine HC.out.mono ?_; rintro e w2 ⟨rfl, S2⟩
      have SS : Aside (SWK enc k w0 blk off (insertionSort (brt key) dk a n) w2) := S2
      generalize insertionSort (brt key) dk a n = d2 at *
      clear S2 HC HAB
      go_wp2
      go_loopg [6] (n + 20) (fun kx s6 wr => ∃ (B : Nat) (dk : Array α), s6 = .int .i64 B ∧ 20 ≤ B ∧ B ≤ 400000 ∧ n - B ≤ kx ∧ Aside (Bk key tag B 0 n dk ∧ PermIn 0 n d dk) ∧ Aside (SWK enc k w0 blk off dk wr))
      case atStart => exact ⟨20, d2, rfl, Nat.le_refl _, by omega, by omega, HQ2, SS⟩
      case round =>
        clear SS HQ2 hab hkx
        obtain ⟨B, dk, rfl, hB, hBb, hkB, HQ, S1⟩ := hrel
        by_cases hlt : B < n
        · have e2 : (2 : Int) * (B : Int) = ((2 * B : Nat) : Int) := by push_cast; rfl
          have e3 : (B : Int) * (2 : Int) = ((2 * B : Nat) : Int) := by push_cast; rw [Int.mul_comm]
          have HBQ : Aside (2 * B = B + B ∧ B ≤ 2 * B) := ⟨by omega, by omega⟩
          have HBK : Aside (Bk key tag B (2 * B * 0) n dk ∧ PermIn 0 n d dk) := HQ.out
          have hBB : 2 * B ≤ 200000 := by omega
          have HM0 : Aside (2 * B * 0 = 0) := rfl
          have HMS : Aside (∀ c, 2 * B * (c + 1) = 2 * B * c + 2 * B) := fun c => Nat.mul_succ _ _
          have HBm : Aside (∀ (c b : Nat) (dk : Array α), Bk key tag B (2 * B * c) n dk → b ≤ n → 2 * B * c + B ≤ b → b ≤ 2 * B * c + 2 * B → MG key tag (2 * B * c) (2 * B * c + B) b dk) := fun c b dk h h1 h2 h3 => h.mg (by omega) h1 h2 h3
          have HBg : Aside (∀ (c b : Nat) (dk d' : Array α), Bk key tag B (2 * B * c) n dk → b ≤ n → b ≤ 2 * B * c + 2 * B → (b = 2 * B * c + 2 * B ∨ b = n) → Merged key tag (2 * B * c) b dk d' → 2 * B * c ≤ b → Bk key tag B (2 * B * (c + 1)) n d') := fun c b dk d' h h1 h2 h3 h4 h5 => h.merge (by omega) h1 h2 h3 h4 h5
          have HBt : Aside (∀ (c : Nat) (dk : Array α), Bk key tag B (2 * B * c) n dk → n ≤ 2 * B * c + B → Bk key tag (2 * B) 0 n dk) := fun c dk h h1 => h.twice (by omega) h1
          clear HQ
          generalize 2 * B = D at *
          have hD : B ≤ D := by have := HBQ.out; omega
          go_wp2
          go_loopg [7, 8] (n + 20) (fun ky s7 s8 wr => ∃ (c A E : Nat) (dk : Array α), s7 = .int .i64 A ∧ s8 = .int .i64 E ∧ A ≤ n ∧ n - A ≤ ky ∧ E ≤ 400000 ∧ Aside (A = D * c ∧ E = A + D) ∧ Aside (Bk key tag B (D * c) n dk ∧ PermIn 0 n d dk) ∧ Aside (SWK enc k w0 blk off dk wr))
          case atStart => exact ⟨0, 0, D, dk, rfl, rfl, Nat.zero_le _, by omega, by omega, ⟨HM0.out.symm, by omega⟩, HBK, S1⟩
          case round =>
            clear S1 HBK
            obtain ⟨c, A, E, dk, rfl, rfl, hAn, hky, hEb, HE, HQ, S1⟩ := hrel
            have HE2 := HE.out
            have eAB : (A : Int) + (B : Int) = ((A + B : Nat) : Int) := by push_cast; rfl
            have hAB : A < A + B ∧ A + B ≤ E ∧ A < E := by have := HBQ.out; omega
            have HMM : Aside (A + B = A + B) := rfl
            by_cases hle : E ≤ n
            · have HMG : Aside (MG key tag A (A + B) E dk) := by
                obtain ⟨q1, q2⟩ := HE.out
                rw [q1]
                exact HBm.out c E dk HQ.out.1 hle (by rw [← q1]; exact hAB.2.1) (by rw [← q1]; omega)
              have HC := Lib.hid (HM.out A (A + B) E dk wr HQ.out.1.sz S1.out hAB.1 (by have := HBQ.out; omega) HMG.out)
              have HNX : Aside (∀ d', Merged key tag A E dk d' → Bk key tag B (D * (c + 1)) n d' ∧ PermIn 0 n d d') := fun d' h => by
                obtain ⟨q1, q2⟩ := HE.out
                refine ⟨HBg.out c E dk d' HQ.out.1 hle (by rw [← q1]; omega) (Or.inl (by rw [← q1]; exact q2)) (by rw [← q1]; exact h) (by rw [← q1]; omega), ?_⟩
                exact permIn_trans _ _ _ 0 n HQ.out.2 (permIn_mono _ _ A E 0 n (Nat.zero_le _) hle (by rw [HQ.out.1.sz]; exact Nat.le_refl _) h.1)
              have HNE : Aside (E = D * (c + 1)) := by
                show E = _
                rw [HMS.out c]
                have := HE.out
                omega
              have hm : n - E < n - A := by omega
              generalize A + B = AB at *
              clear HQ S1 HMG HE2
              go_wp2_with fail
              refine HC.out.mono ?_; rintro e w3 ⟨rfl, d3, S3, M3⟩
              have SS : Aside (SWK enc k w0 blk off d3 w3) := S3
              have NX : Aside _ := HNX.out d3 M3
              clear S3 M3 HC HNX
              go_wp2
              go_roundg (n - E)
              case measure => omega
              case rel => exact ⟨c + 1, E, E + D, d3, rfl, by go_num, hle, Nat.le_refl _, by omega, ⟨HNE.out, rfl⟩, NX, SS⟩
            · have HZ := Lib.hid HQ.out.1.sz
              by_cases hmn : A + B < n
              · have HMG : Aside (MG key tag A (A + B) n dk) := by
                  obtain ⟨q1, q2⟩ := HE.out
                  rw [q1]
                  exact HBm.out c n dk HQ.out.1 (Nat.le_refl _) (by rw [← q1]; omega) (by rw [← q1]; omega)
                have HC := Lib.hid (HM.out A (A + B) n dk wr HQ.out.1.sz S1.out hAB.1 hmn HMG.out)
                have HNX : Aside (∀ d', Merged key tag A n dk d' → Bk key tag D 0 n d' ∧ PermIn 0 n d d') := fun d' h => by
                  obtain ⟨q1, q2⟩ := HE.out
                  have h1 := HBg.out c n dk d' HQ.out.1 (Nat.le_refl _) (by rw [← q1]; omega) (Or.inr rfl) (by rw [← q1]; exact h) (by rw [← q1]; omega)
                  refine ⟨HBt.out (c + 1) d' h1 (by rw [HMS.out c, ← q1]; omega), ?_⟩
                  exact permIn_trans _ _ _ 0 n HQ.out.2 (permIn_mono _ _ A n 0 n (Nat.zero_le _) (Nat.le_refl _) (by rw [HQ.out.1.sz]; exact Nat.le_refl _) h.1)
                have hm : n - D < n - B := by have := HBQ.out; omega
                have hDB : 20 ≤ D ∧ D ≤ 400000 := by omega
                generalize A + B = AB at *
                clear HQ S1 HMG HE2
                go_wp2_with fail
                refine HC.out.mono ?_; rintro e w3 ⟨rfl, d3, S3, M3⟩
                have SS : Aside (SWK enc k w0 blk off d3 w3) := S3
                have NX : Aside _ := HNX.out d3 M3
                clear S3 M3 HC HNX
                go_wp2
                go_roundg (n - D)
                case measure => omega
                case rel => exact ⟨D, d3, by first | rfl | go_num, hDB.1, hDB.2, Nat.le_refl _, NX, SS⟩
              · have NX : Aside (Bk key tag D 0 n dk ∧ PermIn 0 n d dk) := by
                  obtain ⟨q1, q2⟩ := HE.out
                  exact ⟨HBt.out c dk HQ.out.1 (by rw [← q1]; omega), HQ.out.2⟩
                have hm : n - D < n - B := by have := HBQ.out; omega
                have hDB : 20 ≤ D ∧ D ≤ 400000 := by omega
                generalize A + B = AB at *
                clear HQ HE2
                go_wp2
                go_roundg (n - D)
                case measure => omega
                case rel => exact ⟨D, dk, by first | rfl | go_num, hDB.1, hDB.2, Nat.le_refl _, NX, S1⟩
        · have HF := Lib.hid (HQ.out.1.all (by omega))
          go_wp2
          go_end0
          exact ⟨rfl, dk, S1.out, HQ.out.2, HF.out⟩

/-- SortStableFunc: the row ends sorted, equals in the order in which they came. -/
theorem sortStable_any (L : SrtL P k) (R : SR P k enc key g cb blk off d0 w0) (cap : Nat) (hT : ∀ p, p < d0.size → tag d0[p]! = p) :
    Calls P 56 #[.slice (some ⟨blk, off, none⟩) d0.size cap, .func (.func g) #[] cb] w0 fun e w' =>
      e = .returned (.tuple #[]) ∧ ∃ d' : Array α, SWK enc k w0 blk off d' w' ∧ PermIn 0 d0.size d0 d' ∧ SortedIn (ahd key tag) 0 d0.size d' := by
  have HC := Lib.hid (stable_any L R cap d0.size d0 w0 rfl rfl (SWK.start R.row.hH) hT)
  have mixed := L.mixed; have t0 := L.t0; have a0 := L.a0; have z0 := L.z0; have v0 := L.v0; have t3 := L.t3; have a3 := L.a3; have z3 := L.z3; have v3 := L.v3; have t4 := L.t4; have a4 := L.a4; have z4 := L.z4; have v4 := L.v4; have tS := L.tS; have aS := L.aS; have zS := L.zS; have vS := L.vS; have tF := L.tF; have aF := L.aF; have zF := L.zF; have vF := L.vF; have aE := L.aE; have zE := L.zE; have FG := L.fSrt
  have eI : ∀ args w, (callFunc 82 args).run P w = .ok (.enter 82 args) w := enters_of L.fStb (by kernel_rfl) rfl
  have hsz := R.sz
  clear L R hT
  generalize d0.size = n at *
  go_enter FG, Tryz.ntmps56
  go_wp2_with fail
  refine HC.out.mono ?_; rintro e w2 ⟨rfl, d', h1, h2, h3⟩
  have HH : Aside _ := And.intro h1 (And.intro h2 h3)
  clear h1 h2 h3 HC
  go_wp2
  go_end0
  exact ⟨rfl, d', HH.out⟩
end Go.Proofs.YthbekddpnkammaaGreatDoor
