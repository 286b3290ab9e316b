/- The library's insertion sort of spots, at this program. -/
import Derived.Test.YthbekddpnkammaaGreatDoorStbP
import Derived.Test.YthbekddpnkammaaGreatDoorTab
import Derived.Shelf.SlSortCmp.KitK
import Derived.Deep.LoopGhost
import Derived.Sort.WalkB2
import Derived.Sort.WalkB12
namespace Go.Proofs.YthbekddpnkammaaGreatDoor
open Go.Shelf Go.RowKit Go.Lib Go.Sort

/-- What the walks of the sort want of the program. -/
structure SrtL (P : Program) (k : Nat) : Prop where
  mixed : P.follows .mixedOrders = true
  fIns : P.funcs[120]? = some Tryz.f120
  fSwr : P.funcs[154]? = some Tryz.f154
  fRot : P.funcs[140]? = some Tryz.f140
  fSym : P.funcs[121]? = some Tryz.f121
  fStb : P.funcs[82]? = some Tryz.f82
  fSrt : P.funcs[56]? = some Tryz.f56
  t0 : P.underlying 0 = some (TypeDesc.tuple #[])
  a0 : ∀ w, (isAgg 0).run P w = .ok false w
  z0 : ∀ w, (Go.sizeOf 0).run P w = .ok 1 w
  v0 : ∀ w, (zeroValue 0).run P w = .ok (Value.tuple #[]) w
  t3 : P.underlying 3 = some (TypeDesc.int IntKind.i64)
  a3 : ∀ w, (isAgg 3).run P w = .ok false w
  z3 : ∀ w, (Go.sizeOf 3).run P w = .ok 1 w
  v3 : ∀ w, (zeroValue 3).run P w = .ok (Value.int IntKind.i64 0) w
  t4 : P.underlying 4 = some (TypeDesc.bool)
  a4 : ∀ w, (isAgg 4).run P w = .ok false w
  z4 : ∀ w, (Go.sizeOf 4).run P w = .ok 1 w
  v4 : ∀ w, (zeroValue 4).run P w = .ok (Value.bool false) w
  t9 : P.underlying 84 = some (TypeDesc.int IntKind.u64)
  a9 : ∀ w, (isAgg 84).run P w = .ok false w
  z9 : ∀ w, (Go.sizeOf 84).run P w = .ok 1 w
  v9 : ∀ w, (zeroValue 84).run P w = .ok (Value.int IntKind.u64 0) w
  tS : P.underlying 57 = some (TypeDesc.slice 36)
  aS : ∀ w, (isAgg 57).run P w = .ok false w
  zS : ∀ w, (Go.sizeOf 57).run P w = .ok 1 w
  vS : ∀ w, (zeroValue 57).run P w = .ok (Value.slice none 0 0) w
  tF : P.underlying 108 = some (TypeDesc.func #[36, 36] #[3] false)
  aF : ∀ w, (isAgg 108).run P w = .ok false w
  zF : ∀ w, (Go.sizeOf 108).run P w = .ok 1 w
  vF : ∀ w, (zeroValue 108).run P w = .ok (Value.nilFunc) w
  aE : ∀ w, (isAgg 36).run P w = .ok true w
  zE : ∀ w, (Go.sizeOf 36).run P w = .ok k w
theorem srtL : SrtL Tryz.prog 9 := {
  mixed := by kernel_rfl
  fIns := Tryz.func120
  fSwr := Tryz.func154
  fRot := Tryz.func140
  fSym := Tryz.func121
  fStb := Tryz.func82
  fSrt := Tryz.func56
  t0 := Tryz.underlying0
  a0 := Tryz.isAgg0
  z0 := Tryz.sizeOf0
  v0 := Tryz.zeroValue0
  t3 := Tryz.underlying3
  a3 := Tryz.isAgg3
  z3 := Tryz.sizeOf3
  v3 := Tryz.zeroValue3
  t4 := Tryz.underlying4
  a4 := Tryz.isAgg4
  z4 := Tryz.sizeOf4
  v4 := Tryz.zeroValue4
  t9 := Tryz.underlying84
  a9 := Tryz.isAgg84
  z9 := Tryz.sizeOf84
  v9 := Tryz.zeroValue84
  tS := Tryz.underlying57
  aS := Tryz.isAgg57
  zS := Tryz.sizeOf57
  vS := Tryz.zeroValue57
  tF := Tryz.underlying108
  aF := Tryz.isAgg108
  zF := Tryz.sizeOf108
  vF := Tryz.zeroValue108
  aE := Tryz.isAgg36
  zE := Tryz.sizeOf36 }
def insRen : Go.Shelf.Ren := ⟨fun | 20 => 120 | n => n, fun | 22 => 57 | 24 => 36 | 25 => 108 | n => n, fun | n => n⟩
theorem insLays {P : Program} {k : Nat} (L : SrtL P k) : SlLaysF0.n20 P insRen := {
  mixed := L.mixed
  f20 := ⟨Tryz.f120.name, by decide, L.fIns.trans (congrArg some (by kernel_rfl))⟩
  t0 := L.t0
  a0 := L.a0
  z0 := L.z0
  v0 := L.v0
  t3 := L.t3
  a3 := L.a3
  z3 := L.z3
  v3 := L.v3
  t4 := L.t4
  a4 := L.a4
  z4 := L.z4
  v4 := L.v4
  t22 := L.tS
  a22 := L.aS
  z22 := L.zS
  v22 := L.vS
  t25 := L.tF
  a25 := L.aF
  z25 := L.zF
  v25 := L.vF
}

/-- What the sort is told of its row and of its order, once: a row of elements of k cells, a comparison by a key. -/
structure SR {α : Type} [Inhabited α] (P : Program) (k : Nat) (enc : α → List Value) (key : α → Int) (g : Nat) (cb : Array Value) (blk off : Nat) (d0 : Array α) (w0 : World) : Prop where
  row : RowK enc k w0 blk off d0
  eg : ∀ args w, (callFunc g args).run P w = .ok (.enter g args) w
  cmp : CmpLays P g cb enc k (fun x y => Lib.compareInt (key y) (key x)) blk off d0.size w0
  sz : d0.size ≤ 100000
variable {α : Type} [Inhabited α] {P : Program} {k : Nat} {enc : α → List Value} {key : α → Int} {g : Nat} {cb : Array Value} {blk off : Nat} {d0 : Array α} {w0 : World}
omit [Inhabited α] in
theorem lt_brt : (ltOf fun x y : α => Lib.compareInt (key y) (key x)) = brt key := by
  funext x y
  unfold ltOf brt Lib.compareInt
  by_cases h1 : key y < key x
  · simp [h1]
  · by_cases h2 : key x < key y <;> simp [h1, h2]
omit [Inhabited α] in
theorem swo_brt : SWO (brt key) where
  irrefl x := by unfold brt; simp
  trans x y z h1 h2 := by unfold brt at *; simp at *; omega
  ntrans x y z h1 h2 := by unfold brt at *; simp at *; omega
/-- The insertion sort, from a world of the sort's to a world of the sort's. -/
theorem ins_any (L : SrtL P k) (R : SR P k enc key g cb blk off d0 w0) (cap a b : Nat) (d : Array α) (w : World) (hs : d.size = d0.size) (S : SWK enc k w0 blk off d w) (hab : a ≤ b) (hb : b ≤ d.size) :
    Calls P 120 #[.slice (some ⟨blk, off, none⟩) d.size cap, .int .i64 a, .int .i64 b, .func (.func g) #[] cb] w fun e w' => e = .returned (.tuple #[]) ∧ SWK enc k w0 blk off (insertionSort (brt key) d a b) w' := by
  obtain ⟨n, os, rfl⟩ := S
  have hsz := R.sz
  have h := AnyQ.insertionSortCmpFunc (insLays L) k L.aE L.zE enc R.row.hk R.row.h1 (fun x y => Lib.compareInt (key y) (key x)) g cb blk off cap a b d (sortWorldK enc k w0 blk off n d os) R.eg
    (fun m os' dk hdk x y => by
      obtain ⟨m2, os2, e2⟩ := (show SWK enc k w0 blk off d (sortWorldK enc k w0 blk off n d os) from ⟨n, os, rfl⟩).on R.row.hblk m dk os' hdk
      rw [e2]
      exact R.cmp m2 os2 dk (hdk.trans hs) x y)
    ((show SWK enc k w0 blk off d (sortWorldK enc k w0 blk off n d os) from ⟨n, os, rfl⟩).holds R.row.hblk R.row.hH hs) ((show SWK enc k w0 blk off d (sortWorldK enc k w0 blk off n d os) from ⟨n, os, rfl⟩).lt R.row.hblk) hab hb (by omega)
  rw [lt_brt] at h
  exact h.mono fun e w' ⟨he, m, os', hw⟩ => ⟨he, by
    rw [hw]
    exact SWK.on ⟨n, os, rfl⟩ R.row.hblk m _ os' (insertionSort_holds swo_brt d a b hab hb).1.1⟩
end Go.Proofs.YthbekddpnkammaaGreatDoor

namespace Go.Proofs.YthbekddpnkammaaGreatDoor
open Go.Shelf Go.RowKit Go.Lib Go.Sort

variable {α : Type} [Inhabited α] {P : Program} {k : Nat} {enc : α → List Value} {key : α → Int} {g : Nat} {cb : Array Value} {blk off : Nat} {d0 : Array α} {w0 : World}
set_option maxHeartbeats 4000000 in
set_option maxRecDepth 1000000 in
theorem swapRange_any (L : SrtL P k) (R : SR P k enc key g cb blk off d0 w0) (cap a b n : Nat) (d : Array α) (w : World) (hs : d.size = d0.size) (S : SWK enc k w0 blk off d w) (hab : a + n ≤ b) (hb : b + n ≤ d.size) (lo hi : Nat) (hlo : lo ≤ a) (hhi : b + n ≤ hi) (hhs : hi ≤ d.size) :
    Calls P 154 #[.slice (some ⟨blk, off, none⟩) d.size cap, .int .i64 a, .int .i64 b, .int .i64 n, .func (.func g) #[] cb] w fun e w' =>
      e = .returned (.tuple #[]) ∧ ∃ d' : Array α, SWK enc k w0 blk off d' w' ∧ PermIn lo hi d d' ∧ ∀ p, p < d.size → d'[p]! = swR d a b n p := by
  have mixed := L.mixed; have t0 := L.t0; have a0 := L.a0; have z0 := L.z0; have v0 := L.v0; have t3 := L.t3; have a3 := L.a3; have z3 := L.z3; have v3 := L.v3; have t4 := L.t4; have a4 := L.a4; have z4 := L.z4; have v4 := L.v4; have tS := L.tS; have aS := L.aS; have zS := L.zS; have vS := L.vS; have tF := L.tF; have aF := L.aF; have zF := L.zF; have vF := L.vF; have aE := L.aE; have zE := L.zE; have FG := L.fSwr
  have hsz := R.sz
  have HR : Aside _ := R.row
  have S0 : Aside (SWK enc k w0 blk off d w) := S
  have HI : Aside (lo ≤ a ∧ b + n ≤ hi ∧ hi ≤ d.size ∧ a + n ≤ b) := ⟨hlo, hhi, hhs, hab⟩
  clear S L R hlo hhi hhs
  go_enter FG, Tryz.ntmps154
  go_wp2
  go_loopg [10] n (fun kx s10 wr => ∃ (i : Nat) (dk : Array α), s10 = .int .i64 i ∧ i ≤ n ∧ n - i ≤ kx ∧ dk.size = d.size ∧ Aside (SWK enc k w0 blk off dk wr) ∧ Aside (PermIn lo hi d dk ∧ ∀ p, p < d.size → dk[p]! = swR d a b i p))
  case atStart => exact ⟨0, d, rfl, Nat.zero_le _, by omega, rfl, S0, ⟨permIn_refl d lo hi, fun p _ => (swR_zero a b p).symm⟩⟩
  case round =>
    clear S0
    obtain ⟨i, dk, rfl, hin, hkx, hds, S1, HP⟩ := hrel
    by_cases hlt : i < n
    · have hltz : (i : Int) < (n : Int) := by omega
      have ep : (a : Int) + (i : Int) = ((a + i : Nat) : Int) := by push_cast; rfl
      have eq : (b : Int) + (i : Int) = ((b + i : Nat) : Int) := by push_cast; rfl
      have S2 : Aside (SWK enc k w0 blk off (swp dk (a + i) (b + i)) ((wr.drew.setCells blk (off + (a + i) * k) (enc dk[b + i]!)).setCells blk (off + (b + i) * k) (enc dk[a + i]!))) := S1.out.swapped HR.out (a + i) (b + i) (by omega) (by omega)
      have P2 : Aside (PermIn lo hi d (swp dk (a + i) (b + i)) ∧ ∀ p, p < d.size → (swp dk (a + i) (b + i))[p]! = swR d a b (i + 1) p) :=
        ⟨permIn_trans _ _ _ lo hi HP.out.1 (swp_permIn dk lo hi (a + i) (b + i) (by have := HI.out; omega) (by have := HI.out; omega) (by have := HI.out; omega) (by have := HI.out; omega) (by have := HI.out; omega)), fun p hp => swR_step hab hb hds hlt HP.out.2 p hp⟩
      have hz2 : (swp dk (a + i) (b + i)).size = d.size := by rw [swp_size]; exact hds
      have l44a := S1.out.ld1 HR.out (by omega) P (a + i) (by omega)
      have l44b := S1.out.ld1 HR.out (by omega) P (b + i) (by omega)
      have s44a := S1.out.st1 HR.out (by omega) P (a + i) (by omega) dk[b + i]!
      have s44b := S1.out.st2 HR.out (by omega) P (a + i) (b + i) (by omega) (by omega) dk[b + i]! dk[a + i]!
      have n44a : (enc dk[a + i]!).length = k := HR.out.hk _
      have n44b : (enc dk[b + i]!).length = k := HR.out.hk _
      generalize enc dk[a + i]! = cI44 at S2 l44a s44b n44a
      generalize enc dk[b + i]! = cJ44 at S2 l44b s44a s44b n44b
      generalize swp dk (a + i) (b + i) = d2 at *
      have hp : a + i < d.size := by omega
      have hq : b + i < d.size := by omega
      generalize a + i = p at *
      generalize b + i = q at *
      have ea44 : ((p : Int)).toNat = p := by omega
      have pa44 : (0 : Int) ≤ (p : Int) := by omega
      have ba44 : (p : Int) < (d.size : Int) := by omega
      have ra44 : IntKind.i64.wrap ((p : Int)) = (p : Int) := by rw [IntKind.wrap_i64]; omega
      have ec44 : ((q : Int)).toNat = q := by omega
      have pc44 : (0 : Int) ≤ (q : Int) := by omega
      have bc44 : (q : Int) < (d.size : Int) := by omega
      have rc44 : IntKind.i64.wrap ((q : Int)) = (q : Int) := by rw [IntKind.wrap_i64]; omega
      clear S1 HP
      go_wp2_with fail
      go_big_region_o
      clear l44a l44b s44a s44b
      generalize (wr.drew.setCells blk (off + p * k) cJ44).setCells blk (off + q * k) cI44 = w2 at S2 ⊢
      go_wp2
      go_roundg (n - (i + 1))
      case measure => omega
      case rel => exact ⟨i + 1, d2, by go_num, by omega, Nat.le_refl _, hz2, S2, P2⟩
    · have e : i = n := by omega
      subst e
      go_wp2
      go_end0
      exact ⟨rfl, dk, S1.out, HP.out⟩

set_option maxHeartbeats 4000000 in
set_option maxRecDepth 1000000 in
theorem rotate_any (L : SrtL P k) (R : SR P k enc key g cb blk off d0 w0) (cap a m b : Nat) (d : Array α) (w : World) (hs : d.size = d0.size) (S : SWK enc k w0 blk off d w) (ham : a < m) (hmb : m < b) (hb : b ≤ d.size) (lo hi : Nat) (hlo : lo ≤ a) (hhi : b ≤ hi) (hhs : hi ≤ d.size) :
    Calls P 140 #[.slice (some ⟨blk, off, none⟩) d.size cap, .int .i64 a, .int .i64 m, .int .i64 b, .func (.func g) #[] cb] w fun e w' =>
      e = .returned (.tuple #[]) ∧ ∃ d' : Array α, SWK enc k w0 blk off d' w' ∧ PermIn lo hi d d' ∧ ∀ p, p < d.size → d'[p]! = rotT d a m b p := by
  have hsz := R.sz
  have e20 : ∀ args w, (callFunc 154 args).run P w = .ok (.enter 154 args) w := enters_of L.fSwr (by kernel_rfl) rfl
  have HSw : Aside (∀ (a b n : Nat) (dk : Array α) (w : World), dk.size = d.size → SWK enc k w0 blk off dk w → a + n ≤ b → b + n ≤ d.size → lo ≤ a → b + n ≤ hi → Calls P 154 #[.slice (some ⟨blk, off, none⟩) d.size cap, .int .i64 a, .int .i64 b, .int .i64 n, .func (.func g) #[] cb] w fun e w' =>
      e = .returned (.tuple #[]) ∧ ∃ d' : Array α, SWK enc k w0 blk off d' w' ∧ PermIn lo hi dk d' ∧ ∀ p, p < dk.size → d'[p]! = swR dk a b n p) := fun a b n dk w h1 h2 h3 h4 h5 h6 => by
    rw [← h1]
    exact swapRange_any L R cap a b n dk w (h1.trans hs) h2 h3 (by omega) lo hi h5 h6 (by omega)
  have mixed := L.mixed; have t0 := L.t0; have a0 := L.a0; have z0 := L.z0; have v0 := L.v0; have t3 := L.t3; have a3 := L.a3; have z3 := L.z3; have v3 := L.v3; have t4 := L.t4; have a4 := L.a4; have z4 := L.z4; have v4 := L.v4; have tS := L.tS; have aS := L.aS; have zS := L.zS; have vS := L.vS; have tF := L.tF; have aF := L.aF; have zF := L.zF; have vF := L.vF; have FG := L.fRot
  have S0 : Aside (SWK enc k w0 blk off d w) := S
  have hdz : d.size ≤ 100000 := by omega
  clear hs hsz
  have hi0 : (m : Int) - (a : Int) = ((m - a : Nat) : Int) := by omega
  have hj0 : (b : Int) - (m : Int) = ((b - m : Nat) : Int) := by omega
  have HI0 : Aside (m - (m - a) = a ∧ m + (b - m) = b) := ⟨by omega, by omega⟩
  clear S L R
  go_enter FG, Tryz.ntmps140
  go_wp2
  go_loopg [10, 11] (b - a) (fun kx s10 s11 wr => ∃ (i j : Nat) (dk : Array α), s10 = .int .i64 i ∧ s11 = .int .i64 j ∧ 0 < i ∧ 0 < j ∧ a + i ≤ m ∧ m + j ≤ b ∧ i + j ≤ kx ∧ dk.size = d.size ∧ Aside (SWK enc k w0 blk off dk wr) ∧ Aside (PermIn lo hi d dk ∧ ∀ p, p < d.size → rotT dk (m - i) m (m + j) p = rotT d a m b p))
  case atStart => exact ⟨m - a, b - m, d, by go_num, by go_num, by omega, by omega, by omega, by omega, by omega, rfl, S0, ⟨permIn_refl d lo hi, fun p _ => by rw [HI0.out.1, HI0.out.2]⟩⟩
  case round =>
    clear S0 hi0 hj0 HI0
    obtain ⟨i, j, dk, rfl, rfl, hi1, hj1, hai, hjb, hkx, hds, S1, HP⟩ := hrel
    have b1 : (m : Int) - (i : Int) = ((m - i : Nat) : Int) := by omega
    rcases Nat.lt_trichotomy i j with hlt | heq | hgt
    · have c1 : ((i : Int) != (j : Int)) = true := by rw [bne_iff_ne]; omega
      have c2 : decide ((j : Int) < (i : Int)) = false := by simp; omega
      have b2 : (m : Int) + (j : Int) = ((m + j : Nat) : Int) := by omega
      have b3 : ((m + j : Nat) : Int) - (i : Int) = ((m + j - i : Nat) : Int) := by omega
      have b4 : (j : Int) - (i : Int) = ((j - i : Nat) : Int) := by omega
      have b5 : 0 < j - i ∧ j - i ≤ j ∧ m + (j - i) ≤ b ∧ i + (j - i) < i + j := by omega
      have b6 : m + j ≤ 100000 ∧ m + j - i ≤ 100000 := by omega
      have HC := Lib.hid (HSw.out (m - i) (m + j - i) i dk wr hds S1.out (by omega) (by omega) (by omega) (by omega))
      have HRT := Lib.hid (fun d' h => rot_right (m := m) (i := i) (j := j) (dk := dk) (dk' := d') (by omega) (by omega) (by omega) h)
      have HP2 : Aside (∀ d2 : Array α, PermIn lo hi dk d2 → (∀ p, p < dk.size → d2[p]! = swR dk (m - i) (m + j - i) i p) → PermIn lo hi d d2 ∧ ∀ p, p < d.size → rotT d2 (m - i) m (m + (j - i)) p = rotT d a m b p) := fun d2 P2 r2 => ⟨permIn_trans _ _ _ lo hi HP.out.1 P2, fun p hp => (HRT.out d2 r2 p (by omega)).trans (HP.out.2 p hp)⟩
      clear HRT HP S1
      obtain ⟨mi, hmi⟩ : ∃ x, m - i = x := ⟨_, rfl⟩
      rw [hmi] at HC HP2 b1
      have HMI := Lib.hid hmi
      clear hmi
      generalize m + j - i = mj at *
      generalize m + j = q at *
      generalize j - i = jj at *
      go_wp2_with (first | (go_at_call 154; refine HC.out.mono ?_; rintro e w2 ⟨rfl, d2, S2, P2, r2⟩))
      have SS : Aside (SWK enc k w0 blk off d2 w2) := S2
      have hz2 : d2.size = d.size := P2.1.trans hds
      have PP : Aside _ := HP2.out d2 P2 r2
      clear S2 P2 r2 HC HP2
      go_roundg (i + jj)
      case measure => omega
      case rel => exact ⟨i, jj, d2, rfl, by first | rfl | go_num, hi1, b5.1, hai, b5.2.2.1, Nat.le_refl _, hz2, SS, by rw [HMI.out]; exact PP⟩
    · subst heq
      have c1 : ((i : Int) != (i : Int)) = false := by simp
      have HC := Lib.hid (HSw.out (m - i) m i dk wr hds S1.out (by omega) (by omega) (by omega) (by omega))
      have HRT := Lib.hid (fun d' h => rot_same (m := m) (i := i) (dk := dk) (dk' := d') (by omega) h)
      have HP2 : Aside (∀ d2 : Array α, PermIn lo hi dk d2 → (∀ p, p < dk.size → d2[p]! = swR dk (m - i) m i p) → PermIn lo hi d d2 ∧ ∀ p, p < d.size → d2[p]! = rotT d a m b p) := fun d2 P2 r2 => ⟨permIn_trans _ _ _ lo hi HP.out.1 P2, fun p hp => (HRT.out d2 r2 p (by omega)).trans (HP.out.2 p hp)⟩
      clear HRT HP S1
      generalize m - i = mi at *
      go_wp2_with (first | (go_at_call 154; refine HC.out.mono ?_; rintro e w2 ⟨rfl, d2, S2, P2, r2⟩))
      have PP : Aside _ := HP2.out d2 P2 r2
      go_end0
      exact ⟨rfl, d2, S2, PP.out⟩
    · have c1 : ((i : Int) != (j : Int)) = true := by rw [bne_iff_ne]; omega
      have c2 : decide ((j : Int) < (i : Int)) = true := by simp; omega
      have b4 : (i : Int) - (j : Int) = ((i - j : Nat) : Int) := by omega
      have b5 : 0 < i - j ∧ i - j ≤ i ∧ a + (i - j) ≤ m ∧ (i - j) + j < i + j := by omega
      have HC := Lib.hid (HSw.out (m - i) m j dk wr hds S1.out (by omega) (by omega) (by omega) (by omega))
      have HRT := Lib.hid (fun d' h => rot_left (m := m) (i := i) (j := j) (dk := dk) (dk' := d') (by omega) (by omega) (by omega) h)
      have HP2 : Aside (∀ d2 : Array α, PermIn lo hi dk d2 → (∀ p, p < dk.size → d2[p]! = swR dk (m - i) m j p) → PermIn lo hi d d2 ∧ ∀ p, p < d.size → rotT d2 (m - (i - j)) m (m + j) p = rotT d a m b p) := fun d2 P2 r2 => ⟨permIn_trans _ _ _ lo hi HP.out.1 P2, fun p hp => (HRT.out d2 r2 p (by omega)).trans (HP.out.2 p hp)⟩
      clear HRT HP S1
      generalize m - i = mi at *
      generalize i - j = ij at *
      go_wp2_with (first | (go_at_call 154; refine HC.out.mono ?_; rintro e w2 ⟨rfl, d2, S2, P2, r2⟩))
      have SS : Aside (SWK enc k w0 blk off d2 w2) := S2
      have hz2 : d2.size = d.size := P2.1.trans hds
      have PP : Aside _ := HP2.out d2 P2 r2
      clear S2 P2 r2 HC HP2
      go_roundg (ij + j)
      case measure => omega
      case rel => exact ⟨ij, j, d2, by first | rfl | go_num, rfl, b5.1, hj1, b5.2.2.1, hjb, Nat.le_refl _, hz2, SS, PP⟩
end Go.Proofs.YthbekddpnkammaaGreatDoor

namespace Go.Proofs.YthbekddpnkammaaGreatDoor
open Go.Shelf Go.RowKit Go.Lib Go.Sort

variable {α : Type} [Inhabited α] {P : Program} {k : Nat} {enc : α → List Value} {key : α → Int} {tag : α → Nat} {g : Nat} {cb : Array Value} {blk off : Nat} {d0 : Array α} {w0 : World}
omit [Inhabited α] in
theorem cmp_lt {x y : α} : Lib.compareInt (key y) (key x) < 0 ↔ brt key x y = true := by
  unfold Lib.compareInt brt
  by_cases h1 : key y < key x
  · simp [h1]
  · by_cases h2 : key x < key y <;> simp [h1, h2]
theorem shl_step {a c : Nat} {d dk : Array α} (hc : c + 1 < d.size) (hac : a ≤ c) (hs : dk.size = d.size) (h : ∀ p, p < d.size → dk[p]! = if a ≤ p ∧ p < c then d[p + 1]! else if p = c then d[a]! else d[p]!) (p : Nat) (hp : p < d.size) :
    (swp dk c (c + 1))[p]! = if a ≤ p ∧ p < c + 1 then d[p + 1]! else if p = c + 1 then d[a]! else d[p]! := by
  rw [swp_get dk (by omega) (by omega)]
  by_cases c1 : p = c + 1
  · rw [if_pos c1, h c (by omega), if_neg (by omega), if_pos rfl, if_neg (by omega), if_pos c1]
  · rw [if_neg c1]
    by_cases c2 : p = c
    · rw [if_pos c2, h (c + 1) (by omega), if_neg (by omega), if_neg (by omega), if_pos (by omega), c2]
    · rw [if_neg c2, h p hp]
      by_cases c3 : a ≤ p ∧ p < c
      · have c4 : a ≤ p ∧ p < c + 1 := by omega
        rw [if_pos c3, if_pos c4]
      · have c4 : ¬ (a ≤ p ∧ p < c + 1) := by omega
        rw [if_neg c3, if_neg c4, if_neg c2, if_neg c1]
theorem shr_step {m c : Nat} {d dk : Array α} (hm : m < d.size) (h0 : 0 < c) (hcm : c ≤ m) (hs : dk.size = d.size) (h : ∀ p, p < d.size → dk[p]! = if p = c then d[m]! else if c < p ∧ p ≤ m then d[p - 1]! else d[p]!) (p : Nat) (hp : p < d.size) :
    (swp dk c (c - 1))[p]! = if p = c - 1 then d[m]! else if c - 1 < p ∧ p ≤ m then d[p - 1]! else d[p]! := by
  rw [swp_get dk (by omega) (by omega)]
  by_cases c1 : p = c - 1
  · rw [if_pos c1, h c (by omega), if_pos rfl, if_pos c1]
  · rw [if_neg c1]
    by_cases c2 : p = c
    · rw [if_pos c2, h (c - 1) (by omega), if_neg (by omega), if_neg (by omega), if_neg c1, if_pos (by omega), c2]
    · rw [if_neg c2, h p hp, if_neg c2, if_neg c1]
      by_cases c3 : c < p ∧ p ≤ m
      · have c4 : c - 1 < p ∧ p ≤ m := by omega
        rw [if_pos c3, if_pos c4]
      · have c4 : ¬ (c - 1 < p ∧ p ≤ m) := by omega
        rw [if_neg c3, if_neg c4]
theorem u64_in {q : Nat} (h : q ≤ 1000000) : IntKind.u64.wrap (q : Int) = (q : Int) := by
  simp [IntKind.wrap, IntKind.bits, IntKind.signed]; omega
set_option maxHeartbeats 4000000 in
set_option maxRecDepth 1000000 in
/-- One element on the left. -/
theorem sym_left (L : SrtL P k) (R : SR P k enc key g cb blk off d0 w0) (cap a b : Nat) (d : Array α) (w : World) (hs : d.size = d0.size) (S : SWK enc k w0 blk off d w) (hb : a + 1 < b) (M : MG key tag a (a + 1) b d) :
    Calls P 121 #[.slice (some ⟨blk, off, none⟩) d.size cap, .int .i64 a, .int .i64 (a + 1 : Nat), .int .i64 b, .func (.func g) #[] cb] w fun e w' =>
      e = .returned (.tuple #[]) ∧ ∃ d' : Array α, SWK enc k w0 blk off d' w' ∧ Merged key tag a b d d' := by
  have mixed := L.mixed; have t0 := L.t0; have a0 := L.a0; have z0 := L.z0; have v0 := L.v0; have t3 := L.t3; have a3 := L.a3; have z3 := L.z3; have v3 := L.v3; have t4 := L.t4; have a4 := L.a4; have z4 := L.z4; have v4 := L.v4; have t9 := L.t9; have a9 := L.a9; have z9 := L.z9; have v9 := L.v9; have tS := L.tS; have aS := L.aS; have zS := L.zS; have vS := L.vS; have tF := L.tF; have aF := L.aF; have zF := L.zF; have vF := L.vF; have aE := L.aE; have zE := L.zE; have FG := L.fSym
  have u9 := run_underlying L.t9
  have hsz := R.sz
  have hdz : d.size ≤ 100000 := by omega
  have hbs := M.bs
  have HR : Aside _ := R.row
  have HC : Aside _ := R.cmp
  have EG : Aside _ := R.eg
  have HM : Aside (MG key tag a (a + 1) b d) := M
  have HS : Aside (d.size = d0.size) := hs
  have S0 : Aside (SWK enc k w0 blk off d w) := S
  have c0 : ((a + 1 : Nat) : Int) - (a : Int) = 1 := by omega
  have eg := R.eg
  clear S L R M hs hsz
  generalize hm : a + 1 = m at *
  go_enter FG, Tryz.ntmps121
  go_wp2
  go_loopg [10, 11] (b - m) (fun kx s10 s11 wr => ∃ i j : Nat, s10 = .int .i64 i ∧ s11 = .int .i64 j ∧ m ≤ i ∧ i ≤ j ∧ j ≤ b ∧ j - i ≤ kx ∧ Aside (SWK enc k w0 blk off d wr) ∧ Aside ((∀ q, m ≤ q → q < i → ahd key tag d[q]! d[a]! = true) ∧ ∀ q, j ≤ q → q < b → ahd key tag d[q]! d[a]! = false))
  case atStart => exact ⟨m, b, rfl, rfl, Nat.le_refl _, by omega, Nat.le_refl _, Nat.le_refl _, S0, ⟨fun q h1 h2 => by omega, fun q h1 h2 => by omega⟩⟩
  case round =>
    clear S0
    obtain ⟨i, j, rfl, rfl, hmi, hij, hjb, hkx, S1, HQ⟩ := hrel
    by_cases hlt : i < j
    · have e1 : (i : Int) + (j : Int) = ((i + j : Nat) : Int) := by omega
      obtain ⟨h, hh⟩ : ∃ h, (i + j) / 2 = h := ⟨_, rfl⟩
      have e3 : ((i + j : Nat) : Int) / 2 = (h : Int) := by omega
      have hih : i ≤ h ∧ h < j := by omega
      have e2 := u64_in (show i + j ≤ 1000000 by omega)
      have lh := S1.out.ld HR.out HS.out P h (by omega)
      have la := S1.out.ld HR.out HS.out P a (by omega)
      have hcg := S1.out.cmp HC.out HS.out d[h]! d[a]!
      have HX : Aside (brt key d[h]! d[a]! = ahd key tag d[h]! d[a]!) := ahd_brt (HM.out.tags a h (Nat.le_refl _) (by omega) (by omega) (by omega))
      have HXC := Lib.hid (cmp_lt (key := key) (x := d[h]!) (y := d[a]!))
      have HSL := Lib.hid (fun (hx : ahd key tag d[h]! d[a]! = true) q h1 h2 => search_left (q := q) HM.out.right (by omega) hx h1 h2)
      have HSR := Lib.hid (fun (hx : ahd key tag d[h]! d[a]! = false) q h1 h2 => search_right (q := q) HM.out.right (by omega) hx h1 h2)
      clear hh
      generalize i + j = q at *
      have ph : (0 : Int) ≤ (h : Int) := by omega
      have bh : (h : Int) < (d.size : Int) := by omega
      have pa : (0 : Int) ≤ (a : Int) := by omega
      have ba : (a : Int) < (d.size : Int) := by omega
      have nh : (enc d[h]!).length = k := HR.out.hk _
      have na : (enc d[a]!).length = k := HR.out.hk _
      obtain ⟨xh, hxh⟩ : ∃ x, d[h]! = x := ⟨_, rfl⟩
      obtain ⟨xa, hxa⟩ : ∃ x, d[a]! = x := ⟨_, rfl⟩
      rw [hxh, hxa] at hcg HXC HX HSL HSR
      rw [hxh] at lh nh
      rw [hxa] at la na
      have HXA := Lib.hid hxa
      clear hxh hxa
      by_cases hlv : Lib.compareInt (key xa) (key xh) < 0
      · have HT := Lib.hid (HX.out.symm.trans (HXC.out.1 hlv))
        go_wp2_with fail
        go_quiet_grown (first | (go_at_fn g; refine Calls.grown_of (hcg _ _)))
        go_wp2
        go_roundg (j - (h + 1))
        case measure => omega
        case rel => exact ⟨h + 1, j, by go_num, rfl, by omega, by omega, hjb, Nat.le_refl _, S1.out.grown nq osq, ⟨fun q h1 h2 => by rw [HXA.out]; exact HSL.out HT.out q h1 (by omega), HQ.out.2⟩⟩
      · have HT : Hid (ahd key tag xh xa = false) := Lib.hid (by rw [← HX.out]; cases z : brt key xh xa with
          | false => rfl
          | true => exact absurd (HXC.out.2 z) hlv)
        go_wp2_with fail
        go_quiet_grown (first | (go_at_fn g; refine Calls.grown_of (hcg _ _)))
        go_wp2
        go_roundg (h - i)
        case measure => omega
        case rel => exact ⟨i, h, rfl, by go_num, hmi, by omega, by omega, Nat.le_refl _, S1.out.grown nq osq, ⟨HQ.out.1, fun q h1 h2 => by rw [HXA.out]; exact HSR.out HT.out q h1 h2⟩⟩
    · have hij' : i = j := by omega
      subst hij'
      have e1 : (i : Int) - 1 = ((i - 1 : Nat) : Int) := by omega
      have HI1 := Lib.hid (show i - 1 + 1 = i by omega)
      have hi1 : a ≤ i - 1 := by omega
      have hi2 : i - 1 < b := by omega
      generalize i - 1 = i1 at *
      go_wp2
      go_loopg [13] (i1 - a) (fun kx s13 wr2 => ∃ (c : Nat) (dk : Array α), s13 = .int .i64 c ∧ a ≤ c ∧ c ≤ i1 ∧ i1 - c ≤ kx ∧ dk.size = d.size ∧ Aside (SWK enc k w0 blk off dk wr2) ∧ Aside (PermIn a b d dk ∧ ∀ p, p < d.size → dk[p]! = if a ≤ p ∧ p < c then d[p + 1]! else if p = c then d[a]! else d[p]!))
      case atStart => exact ⟨a, d, rfl, Nat.le_refl _, hi1, Nat.le_refl _, rfl, S1, ⟨permIn_refl d a b, fun p _ => by rw [if_neg (by omega)]; split <;> simp_all⟩⟩
      case round =>
        clear S1
        obtain ⟨c, dk, rfl, hac, hci, hkc, hds, S1, HP⟩ := hrel
        by_cases hlc : c < i1
        · have hp : c < d.size := by omega
          have hq : c + 1 < d.size := by omega
          have eq : (c : Int) + 1 = ((c + 1 : Nat) : Int) := by push_cast; rfl
          have S2 : Aside (SWK enc k w0 blk off (swp dk c (c + 1)) ((wr.drew.setCells blk (off + c * k) (enc dk[c + 1]!)).setCells blk (off + (c + 1) * k) (enc dk[c]!))) := S1.out.swapped HR.out c (c + 1) (by omega) (by omega)
          have P2 : Aside (PermIn a b d (swp dk c (c + 1)) ∧ ∀ p, p < d.size → (swp dk c (c + 1))[p]! = if a ≤ p ∧ p < c + 1 then d[p + 1]! else if p = c + 1 then d[a]! else d[p]!) :=
            ⟨permIn_trans _ _ _ a b HP.out.1 (swp_permIn dk a b c (c + 1) (by omega) (by omega) (by omega) (by omega) (by omega)), fun p hp => shl_step hq hac hds HP.out.2 p hp⟩
          have hz2 : (swp dk c (c + 1)).size = d.size := by rw [swp_size]; exact hds
          have l44a := S1.out.ld1 HR.out (hds.trans HS.out) P c (by omega)
          have l44b := S1.out.ld1 HR.out (hds.trans HS.out) P (c + 1) (by omega)
          have s44a := S1.out.st1 HR.out (hds.trans HS.out) P c (by omega) dk[c + 1]!
          have s44b := S1.out.st2 HR.out (hds.trans HS.out) P c (c + 1) (by omega) (by omega) dk[c + 1]! dk[c]!
          have n44a : (enc dk[c]!).length = k := HR.out.hk _
          have n44b : (enc dk[c + 1]!).length = k := HR.out.hk _
          generalize enc dk[c]! = cI44 at S2 l44a s44b n44a
          generalize enc dk[c + 1]! = cJ44 at S2 l44b s44a s44b n44b
          generalize swp dk c (c + 1) = d2 at *
          have HC1 := Lib.hid (show c + 1 = c + 1 from rfl)
          obtain ⟨q, hqe⟩ : ∃ q, c + 1 = q := ⟨_, rfl⟩
          rw [hqe] at S2 l44b s44b hq eq
          have HQE := Lib.hid hqe
          have hqi : q ≤ i1 := by omega
          have haq : a ≤ q := by omega
          have hqm : i1 - q < i1 - c := by omega
          clear hqe
          have ea44 : ((c : Int)).toNat = c := by omega
          have pa44 : (0 : Int) ≤ (c : Int) := by omega
          have ba44 : (c : Int) < (d.size : Int) := by omega
          have ra44 : IntKind.i64.wrap ((c : Int)) = (c : Int) := by rw [IntKind.wrap_i64]; omega
          have ec44 : ((q : Int)).toNat = q := by omega
          have pc44 : (0 : Int) ≤ (q : Int) := by omega
          have bc44 : (q : Int) < (d.size : Int) := by omega
          have rc44 : IntKind.i64.wrap ((q : Int)) = (q : Int) := by rw [IntKind.wrap_i64]; omega
          clear S1 HP
          go_wp2_with fail
          go_big_region_o
          clear l44a l44b s44a s44b
          generalize (wr.drew.setCells blk (off + c * k) cJ44).setCells blk (off + q * k) cI44 = w2 at S2 ⊢
          go_wp2
          go_roundg (i1 - q)
          case measure => omega
          case rel => exact ⟨q, d2, by first | rfl | go_num, haq, hqi, Nat.le_refl _, hz2, S2, by rw [← HQE.out]; exact P2⟩
        · have e : c = i1 := by omega
          subst e
          go_wp2
          refine bodyPost_ret (results_none rfl _ _ _) rfl ?_
          have M2 := HM.out
          rw [← hm] at M2
          have hci : c + 1 = i := HI1.out
          subst hci
          exact ⟨rfl, dk, S1.out, M2.one_left (i := c + 1) (by omega) hjb (by rw [hm]; exact HQ.out.1) HQ.out.2 HP.out.1 (fun p hp => by
            rw [HP.out.2 p hp]
            simp only [Nat.add_lt_add_iff_right, Nat.add_right_cancel_iff])⟩
end Go.Proofs.YthbekddpnkammaaGreatDoor

namespace Go.Proofs.YthbekddpnkammaaGreatDoor
open Go.Shelf Go.RowKit Go.Lib Go.Sort

variable {α : Type} [Inhabited α] {P : Program} {k : Nat} {enc : α → List Value} {key : α → Int} {tag : α → Nat} {g : Nat} {cb : Array Value} {blk off : Nat} {d0 : Array α} {w0 : World}
set_option maxHeartbeats 4000000 in
set_option maxRecDepth 1000000 in
/-- One element on the right. -/
theorem sym_right (L : SrtL P k) (R : SR P k enc key g cb blk off d0 w0) (cap a m : Nat) (d : Array α) (w : World) (hs : d.size = d0.size) (S : SWK enc k w0 blk off d w) (ha : a + 1 < m) (M : MG key tag a m (m + 1) d) :
    Calls P 121 #[.slice (some ⟨blk, off, none⟩) d.size cap, .int .i64 a, .int .i64 m, .int .i64 (m + 1 : Nat), .func (.func g) #[] cb] w fun e w' =>
      e = .returned (.tuple #[]) ∧ ∃ d' : Array α, SWK enc k w0 blk off d' w' ∧ Merged key tag a (m + 1) d d' := by
  have mixed := L.mixed; have t0 := L.t0; have a0 := L.a0; have z0 := L.z0; have v0 := L.v0; have t3 := L.t3; have a3 := L.a3; have z3 := L.z3; have v3 := L.v3; have t4 := L.t4; have a4 := L.a4; have z4 := L.z4; have v4 := L.v4; have t9 := L.t9; have a9 := L.a9; have z9 := L.z9; have v9 := L.v9; have tS := L.tS; have aS := L.aS; have zS := L.zS; have vS := L.vS; have tF := L.tF; have aF := L.aF; have zF := L.zF; have vF := L.vF; have aE := L.aE; have zE := L.zE; have FG := L.fSym
  have u9 := run_underlying L.t9
  have hsz := R.sz
  have hdz : d.size ≤ 100000 := by omega
  have hbs := M.bs
  have HR : Aside _ := R.row
  have HC : Aside _ := R.cmp
  have EG : Aside _ := R.eg
  have HM : Aside (MG key tag a m (m + 1) d) := M
  have HS : Aside (d.size = d0.size) := hs
  have S0 : Aside (SWK enc k w0 blk off d w) := S
  have c0 : (m : Int) - (a : Int) = ((m - a : Nat) : Int) := by omega
  have c1 : (((m - a : Nat) : Int) == 1) = false := by simp; omega
  have c2 : ((m + 1 : Nat) : Int) - (m : Int) = 1 := by omega
  have eg := R.eg
  clear S L R M hs hsz
  generalize m - a = ma at *
  generalize hm : m + 1 = b at *
  go_enter FG, Tryz.ntmps121
  go_wp2
  go_loopg [14, 15] (m - a) (fun kx s14 s15 wr => ∃ i j : Nat, s14 = .int .i64 i ∧ s15 = .int .i64 j ∧ a ≤ i ∧ i ≤ j ∧ j ≤ m ∧ j - i ≤ kx ∧ Aside (SWK enc k w0 blk off d wr) ∧ Aside ((∀ q, a ≤ q → q < i → ahd key tag d[m]! d[q]! = false) ∧ ∀ q, j ≤ q → q < m → ahd key tag d[m]! d[q]! = true))
  case atStart => exact ⟨a, m, rfl, rfl, Nat.le_refl _, by omega, Nat.le_refl _, Nat.le_refl _, S0, ⟨fun q h1 h2 => by omega, fun q h1 h2 => by omega⟩⟩
  case round =>
    clear S0
    obtain ⟨i, j, rfl, rfl, hmi, hij, hjb, hkx, S1, HQ⟩ := hrel
    by_cases hlt : i < j
    · have e1 : (i : Int) + (j : Int) = ((i + j : Nat) : Int) := by omega
      obtain ⟨h, hh⟩ : ∃ h, (i + j) / 2 = h := ⟨_, rfl⟩
      have e3 : ((i + j : Nat) : Int) / 2 = (h : Int) := by omega
      have hih : i ≤ h ∧ h < j := by omega
      have e2 := u64_in (show i + j ≤ 1000000 by omega)
      have lh := S1.out.ld HR.out HS.out P h (by omega)
      have la := S1.out.ld HR.out HS.out P m (by omega)
      have hcg := S1.out.cmp HC.out HS.out d[m]! d[h]!
      have HX : Aside (brt key d[m]! d[h]! = ahd key tag d[m]! d[h]!) := ahd_brt (HM.out.tags h m (by omega) (by omega) (Nat.le_refl _) (by omega))
      have HXC := Lib.hid (cmp_lt (key := key) (x := d[m]!) (y := d[h]!))
      have HSL := Lib.hid (fun (hx : ahd key tag d[m]! d[h]! = false) q h1 h2 => search_left' (q := q) HM.out.left (by omega) hx h1 h2)
      have HSR := Lib.hid (fun (hx : ahd key tag d[m]! d[h]! = true) q h1 h2 => search_right' (q := q) HM.out.left (by omega) hx h1 h2)
      clear hh
      generalize i + j = q at *
      have ph : (0 : Int) ≤ (h : Int) := by omega
      have bh : (h : Int) < (d.size : Int) := by omega
      have pa : (0 : Int) ≤ (m : Int) := by omega
      have ba : (m : Int) < (d.size : Int) := by omega
      have nh : (enc d[h]!).length = k := HR.out.hk _
      have na : (enc d[m]!).length = k := HR.out.hk _
      obtain ⟨xh, hxh⟩ : ∃ x, d[h]! = x := ⟨_, rfl⟩
      obtain ⟨xa, hxa⟩ : ∃ x, d[m]! = x := ⟨_, rfl⟩
      rw [hxh, hxa] at hcg HXC HX HSL HSR
      rw [hxh] at lh nh
      rw [hxa] at la na
      have HXA := Lib.hid hxa
      clear hxh hxa
      by_cases hlv : Lib.compareInt (key xh) (key xa) < 0
      · have HT := Lib.hid (HX.out.symm.trans (HXC.out.1 hlv))
        go_wp2_with fail
        go_quiet_grown (first | (go_at_fn g; refine Calls.grown_of (hcg _ _)))
        go_wp2
        go_roundg (h - i)
        case measure => omega
        case rel => exact ⟨i, h, rfl, by go_num, hmi, by omega, by omega, Nat.le_refl _, S1.out.grown nq osq, ⟨HQ.out.1, fun q h1 h2 => by rw [HXA.out]; exact HSR.out HT.out q h1 h2⟩⟩
      · have HT : Hid (ahd key tag xa xh = false) := Lib.hid (by rw [← HX.out]; cases z : brt key xa xh with
          | false => rfl
          | true => exact absurd (HXC.out.2 z) hlv)
        have hld : decide (Lib.compareInt (key xh) (key xa) < 0) = false := decide_eq_false hlv
        go_wp2_with fail
        go_quiet_grown (first | (go_at_fn g; refine Calls.grown_of (hcg _ _)))
        go_wp2
        go_roundg (j - (h + 1))
        case measure => omega
        case rel => exact ⟨h + 1, j, by go_num, rfl, by omega, by omega, hjb, Nat.le_refl _, S1.out.grown nq osq, ⟨fun q h1 h2 => by rw [HXA.out]; exact HSL.out HT.out q h1 (by omega), HQ.out.2⟩⟩
    · have hij' : i = j := by omega
      subst hij'
      go_wp2
      go_loopg [17] (m - i) (fun kx s17 wr2 => ∃ (c : Nat) (dk : Array α), s17 = .int .i64 c ∧ i ≤ c ∧ c ≤ m ∧ c - i ≤ kx ∧ dk.size = d.size ∧ Aside (SWK enc k w0 blk off dk wr2) ∧ Aside (PermIn a b d dk ∧ ∀ p, p < d.size → dk[p]! = if p = c then d[m]! else if c < p ∧ p ≤ m then d[p - 1]! else d[p]!))
      case atStart => exact ⟨m, d, rfl, hjb, Nat.le_refl _, Nat.le_refl _, rfl, S1, ⟨permIn_refl d a b, fun p _ => by
        by_cases c : p = m
        · rw [if_pos c, c]
        · rw [if_neg c, if_neg (by omega)]⟩⟩
      case round =>
        clear S1
        obtain ⟨c, dk, rfl, hac, hci, hkc, hds, S1, HP⟩ := hrel
        by_cases hlc : i < c
        · have hp : c < d.size := by omega
          have hq : c - 1 < d.size := by omega
          have eq : (c : Int) - 1 = ((c - 1 : Nat) : Int) := by omega
          have S2 : Aside (SWK enc k w0 blk off (swp dk c (c - 1)) ((wr.drew.setCells blk (off + c * k) (enc dk[c - 1]!)).setCells blk (off + (c - 1) * k) (enc dk[c]!))) := S1.out.swapped HR.out c (c - 1) (by omega) (by omega)
          have P2 : Aside (PermIn a b d (swp dk c (c - 1)) ∧ ∀ p, p < d.size → (swp dk c (c - 1))[p]! = if p = c - 1 then d[m]! else if c - 1 < p ∧ p ≤ m then d[p - 1]! else d[p]!) :=
            ⟨permIn_trans _ _ _ a b HP.out.1 (swp_permIn dk a b c (c - 1) (by omega) (by omega) (by omega) (by omega) (by omega)), fun p hp => shr_step (by omega) (by omega) (by omega) hds HP.out.2 p hp⟩
          have hz2 : (swp dk c (c - 1)).size = d.size := by rw [swp_size]; exact hds
          have l44a := S1.out.ld1 HR.out (hds.trans HS.out) P c (by omega)
          have l44b := S1.out.ld1 HR.out (hds.trans HS.out) P (c - 1) (by omega)
          have s44a := S1.out.st1 HR.out (hds.trans HS.out) P c (by omega) dk[c - 1]!
          have s44b := S1.out.st2 HR.out (hds.trans HS.out) P c (c - 1) (by omega) (by omega) dk[c - 1]! dk[c]!
          have n44a : (enc dk[c]!).length = k := HR.out.hk _
          have n44b : (enc dk[c - 1]!).length = k := HR.out.hk _
          generalize enc dk[c]! = cI44 at S2 l44a s44b n44a
          generalize enc dk[c - 1]! = cJ44 at S2 l44b s44a s44b n44b
          generalize swp dk c (c - 1) = d2 at *
          have hqi : i ≤ c - 1 := by omega
          have haq : c - 1 ≤ m := by omega
          have hqm : c - 1 - i < c - i := by omega
          generalize c - 1 = q at *
          have ea44 : ((c : Int)).toNat = c := by omega
          have pa44 : (0 : Int) ≤ (c : Int) := by omega
          have ba44 : (c : Int) < (d.size : Int) := by omega
          have ra44 : IntKind.i64.wrap ((c : Int)) = (c : Int) := by rw [IntKind.wrap_i64]; omega
          have ec44 : ((q : Int)).toNat = q := by omega
          have pc44 : (0 : Int) ≤ (q : Int) := by omega
          have bc44 : (q : Int) < (d.size : Int) := by omega
          have rc44 : IntKind.i64.wrap ((q : Int)) = (q : Int) := by rw [IntKind.wrap_i64]; omega
          clear S1 HP
          go_wp2_with fail
          go_big_region_o
          clear l44a l44b s44a s44b
          generalize (wr.drew.setCells blk (off + c * k) cJ44).setCells blk (off + q * k) cI44 = w2 at S2 ⊢
          go_wp2
          go_roundg (q - i)
          case measure => omega
          case rel => exact ⟨q, d2, by first | rfl | go_num, hqi, haq, Nat.le_refl _, hz2, S2, P2⟩
        · have e : c = i := by omega
          subst e
          go_wp2
          refine bodyPost_ret (results_none rfl _ _ _) rfl ?_
          have M2 := HM.out
          refine ⟨rfl, dk, S1.out, ?_⟩
          rw [← hm] at M2 HP ⊢
          exact M2.one_right (i := c) hmi (by omega) HQ.out.1 HQ.out.2 HP.out.1 HP.out.2
end Go.Proofs.YthbekddpnkammaaGreatDoor
