/- Cards in memory; meridianref4.CardsError. -/
import Derived.Test.YtjcmpkkflboaoaaGreatDoorNam
import Derived.Test.YtjcmpkkflboaoaaGreatDoorInts
import Derived.Deep.CutRange
import Derived.Deep.DeepCutAuto
namespace Go.Proofs.YtjcmpkkflboaoaaGreatDoor
open Go.RowKit

/-- The name, the value at a place. -/
def nmC (cs : List Crd) (i : Nat) : List UInt8 := (cs.getD i ([], [])).1
def vlC (cs : List Crd) (i : Nat) : List UInt8 := (cs.getD i ([], [])).2
/-- A row of cards that a slice shows. -/
def CRow (w : World) (a : Option Addr) (cs : List Crd) : Prop := cs = [] ∨ ∃ b o, a = some ⟨b, o, none⟩ ∧ ∀ i, i < cs.length →
  (w.cell? ⟨b, o + i * 2, none⟩ = some (.string (bs (nmC cs i))) ∧ w.cell? ⟨b, o + i * 2 + 1, none⟩ = some (.string (bs (vlC cs i)))) ∧ (nmC cs i).length ≤ 9223372036854775807 ∧ (vlC cs i).length ≤ 9223372036854775807
theorem CRow.at {w : World} {a : Option Addr} {cs : List Crd} (h : CRow w a cs) {i : Nat} (hi : i < cs.length) :
    ∃ b o, a = some ⟨b, o, none⟩ ∧ b < w.heap.size ∧ (w.cell? ⟨b, o + i * 2, none⟩ = some (.string (bs (nmC cs i))) ∧ w.cell? ⟨b, o + i * 2 + 1, none⟩ = some (.string (bs (vlC cs i)))) ∧ (nmC cs i).length ≤ 9223372036854775807 ∧ (vlC cs i).length ≤ 9223372036854775807 := by
  rcases h with rfl | ⟨b, o, rfl, h⟩
  · exact absurd hi (Nat.not_lt_zero _)
  · exact ⟨b, o, rfl, cell_lt (h i hi).1.1, h i hi⟩
theorem CRow.below {w w' : World} {a : Option Addr} {cs : List Crd} (h : CRow w a cs) (hb : Below w.heap.size w w') : CRow w' a cs := by
  rcases h with h | ⟨b, o, e, h⟩
  · exact Or.inl h
  · refine Or.inr ⟨b, o, e, fun i hi => ?_⟩
    obtain ⟨⟨h1, h2⟩, h3⟩ := h i hi
    have hl : b < w.heap.size := cell_lt h1
    exact ⟨⟨(hb.cell hl).trans h1, (hb.cell hl).trans h2⟩, h3⟩
theorem crdE_big {cs : List Crd} (h : 100 < cs.length) : crdE cs = 2 := by unfold crdE; rw [if_pos h]
theorem crdE_nm {cs : List Crd} (h : ¬ 100 < cs.length) (h2 : ¬ nmsOk cs) : crdE cs = 10 := by unfold crdE; rw [if_neg h, if_pos h2]
theorem crdE_vl {cs : List Crd} (h : ¬ 100 < cs.length) (h2 : nmsOk cs) (h3 : ¬ vlsOk cs) : crdE cs = 1 := by unfold crdE; rw [if_neg h, if_neg (fun k => k h2), if_pos h3]
theorem crdE_ok {cs : List Crd} (h : ¬ 100 < cs.length) (h2 : nmsOk cs) (h3 : vlsOk cs) : crdE cs = 0 := by unfold crdE; rw [if_neg h, if_neg (fun k => k h2), if_neg (fun k => k h3)]
theorem bs_toList (l : List UInt8) : (bs l).toList = l := by rw [Lib.toList_data]; simp [bs]
theorem bs_at (l : List UInt8) {j : Nat} (h : j < (bs l).size) : (bs l)[j] ∈ l := by
  have := ba_mem h
  rwa [show (bs l).data.toList = l by simp [bs]] at this
/-- The first of the names are right. -/
theorem nms_step {cs : List Crd} {k : Nat} (h : ∀ j, j < k → nmAt cs j) (g : nmAt cs k) : ∀ j, j < k + 1 → nmAt cs j := fun j hj => by
  by_cases e : j = k
  · rw [e]; exact g
  · exact h j (by omega)
theorem vls_step {cs : List Crd} {k : Nat} (h : ∀ j, j < k → vlOk (vlC cs j)) (g : vlOk (vlC cs k)) : ∀ j, j < k + 1 → vlOk (vlC cs j) := fun j hj => by
  by_cases e : j = k
  · rw [e]; exact g
  · exact h j (by omega)
theorem own_get (l : List UInt8) : l ∉ ownN ↔ ∀ i, i < 7 → ownN.getD i [] ≠ l := by
  constructor
  · intro h i hi e
    refine h ?_
    rw [← e, List.getD_eq_getElem?_getD, List.getElem?_eq_getElem (show i < ownN.length by exact hi)]
    exact List.getElem_mem _
  · intro h hm
    obtain ⟨i, hi, e⟩ := List.getElem_of_mem hm
    refine h i hi ?_
    rw [List.getD_eq_getElem?_getD, List.getElem?_eq_getElem hi]
    exact e
theorem own_cells {w w' : World} {t : TypeId} (hb : Below (w.alloc (.cells #[.string ⟨#[83, 73, 77, 80, 76, 69]⟩, .string ⟨#[66, 73, 84, 80, 73, 88]⟩, .string ⟨#[78, 65, 88, 73, 83]⟩, .string ⟨#[78, 65, 88, 73, 83, 49]⟩, .string ⟨#[78, 65, 88, 73, 83, 50]⟩, .string ⟨#[66, 90, 69, 82, 79]⟩, .string ⟨#[69, 78, 68]⟩] t)).heap.size (w.alloc (.cells #[.string ⟨#[83, 73, 77, 80, 76, 69]⟩, .string ⟨#[66, 73, 84, 80, 73, 88]⟩, .string ⟨#[78, 65, 88, 73, 83]⟩, .string ⟨#[78, 65, 88, 73, 83, 49]⟩, .string ⟨#[78, 65, 88, 73, 83, 50]⟩, .string ⟨#[66, 90, 69, 82, 79]⟩, .string ⟨#[69, 78, 68]⟩] t)) w') {j : Nat} (hj : j < 7) :
    w'.cell? ⟨w.heap.size, j, none⟩ = some (.string (bs (ownN.getD j []))) := by
  rw [hb.cell (p := ⟨w.heap.size, j, none⟩) (by simp), World.cell?_alloc_new]
  have : j = 0 ∨ j = 1 ∨ j = 2 ∨ j = 3 ∨ j = 4 ∨ j = 5 ∨ j = 6 := by omega
  rcases this with rfl | rfl | rfl | rfl | rfl | rfl | rfl <;> rfl
/-- Which characters there are. -/
theorem chr_case (c : UInt8) : (nmB c ∧ ((65 ≤ c.toNat ∧ c.toNat ≤ 90) ∨ (48 ≤ c.toNat ∧ c.toNat ≤ 57) ∨ c.toNat = 45 ∨ c.toNat = 95)) ∨ (¬ nmB c ∧ (c.toNat < 45 ∨ (45 < c.toNat ∧ c.toNat < 48) ∨ (57 < c.toNat ∧ c.toNat < 65) ∨ (90 < c.toNat ∧ c.toNat < 95) ∨ 95 < c.toNat)) := by
  have h := nmB_iff c
  by_cases g : nmB c
  · exact Or.inl ⟨g, h.1 g⟩
  · refine Or.inr ⟨g, ?_⟩
    have : ¬ ((65 ≤ c.toNat ∧ c.toNat ≤ 90) ∨ (48 ≤ c.toNat ∧ c.toNat ≤ 57) ∨ c.toNat = 45 ∨ c.toNat = 95) := fun k => g (h.2 k)
    omega
theorem all_step {s : ByteArray} {k : Nat} {Q : Prop} {p : UInt8 → Prop} {b b' : Bool} (hk : k < s.size) (h : b = true ↔ Q ∧ ∀ i (hi : i < s.size), i < k → p s[i]) (hb : b' = true ↔ b = true ∧ p s[k]) : b' = true ↔ Q ∧ ∀ i (hi : i < s.size), i < k + 1 → p s[i] := by
  rw [hb, h]
  constructor
  · rintro ⟨⟨h1, h2⟩, h3⟩
    refine ⟨h1, fun i hi hik => ?_⟩
    by_cases e : i = k
    · subst e; exact h3
    · exact h2 i hi (by omega)
  · rintro ⟨h1, h2⟩
    exact ⟨⟨h1, fun i hi hik => h2 i hi (by omega)⟩, h2 k hk (by omega)⟩
theorem seq_step {k : Nat} {Q : Prop} {p : Nat → Prop} {b b' : Bool} (h : b = true ↔ Q ∧ ∀ i, i < k → p i) (hb : b' = true ↔ b = true ∧ p k) : b' = true ↔ Q ∧ ∀ i, i < k + 1 → p i := by
  rw [hb, h]
  constructor
  · rintro ⟨⟨h1, h2⟩, h3⟩
    refine ⟨h1, fun i hik => ?_⟩
    by_cases e : i = k
    · subst e; exact h3
    · exact h2 i (by omega)
  · rintro ⟨h1, h2⟩
    exact ⟨⟨h1, fun i hik => h2 i (by omega)⟩, h2 k (by omega)⟩
theorem ba_head {s : ByteArray} (h : 0 < s.size) (hne : s.data.toList ≠ []) : s.data.toList.head hne = s[0] := by
  have := ba_get h
  rw [List.head_eq_getElem]
  rw [List.getElem?_eq_getElem (by rw [ba_len]; exact h)] at this
  exact Option.some.inj this
theorem ba_last {s : ByteArray} (h : s.size - 1 < s.size) (hne : s.data.toList ≠ []) : s.data.toList.getLast hne = s[s.size - 1] := by
  have := ba_get h
  rw [List.getLast_eq_getElem]
  rw [List.getElem?_eq_getElem (by rw [ba_len]; exact h)] at this
  have e := Option.some.inj this
  have hl := ba_len s
  simp only [hl]
  exact e
set_option maxRecDepth 20000 in
set_option maxHeartbeats 16000000 in
theorem cardsError_any (cs : List Crd) (a : Option Addr) (cap : Nat) (w : World) (h : CRow w a cs) (hn : cs.length ≤ 9223372036854775807) :
    Calls Tryz.prog 27 #[.slice a cs.length cap] w fun e w' => e = .returned (.int .i64 (crdE cs : Nat)) ∧ Below w.heap.size w w' := by
  by_cases c0 : 100 < cs.length
  · have E := Lib.hid (crdE_big c0)
    clear h
    go_enter Tryz.func27, Tryz.ntmps27
    go_wp2
    go_ret
    exact ⟨by rw [E.out]; rfl, Below.refl _ _⟩
  have HA := Lib.hid (fun i (hi : i < cs.length) => h.at hi)
  have HN := Lib.hid (fun h2 => crdE_nm (cs := cs) c0 h2)
  have HVl := Lib.hid (fun h2 h3 => crdE_vl (cs := cs) c0 h2 h3)
  have HOk := Lib.hid (fun h2 h3 => crdE_ok (cs := cs) c0 h2 h3)
  clear h
  generalize crdE cs = ce at *
  generalize hL : cs.length = L at *
  have HL := Lib.hid hL
  clear hL
  have d100 : decide ((100 : Int) < (L : Int)) = false := by simp; omega
  go_enter Tryz.func27, Tryz.ntmps27
  go_wp2
  clear d100
  have HOw := Lib.hid (fun j (hj : j < 7) => own_cells (w := w) (t := 9) (Below.refl _ _) hj)
  have HB1 := Lib.hid ((Below.refl w.heap.size w).alloc (Nat.le_refl _) (.cells #[.string ⟨#[83, 73, 77, 80, 76, 69]⟩, .string ⟨#[66, 73, 84, 80, 73, 88]⟩, .string ⟨#[78, 65, 88, 73, 83]⟩, .string ⟨#[78, 65, 88, 73, 83, 49]⟩, .string ⟨#[78, 65, 88, 73, 83, 50]⟩, .string ⟨#[66, 90, 69, 82, 79]⟩, .string ⟨#[69, 78, 68]⟩] 9))
  generalize w.alloc (.cells #[.string ⟨#[83, 73, 77, 80, 76, 69]⟩, .string ⟨#[66, 73, 84, 80, 73, 88]⟩, .string ⟨#[78, 65, 88, 73, 83]⟩, .string ⟨#[78, 65, 88, 73, 83, 49]⟩, .string ⟨#[78, 65, 88, 73, 83, 50]⟩, .string ⟨#[66, 90, 69, 82, 79]⟩, .string ⟨#[69, 78, 68]⟩] 9) = w1 at *
  have HCl : Hid (∀ i, i < L → ∃ b o, a = some ⟨b, o, none⟩ ∧ (w1.cell? ⟨b, o + i * 2, none⟩ = some (.string (bs (nmC cs i))) ∧ w1.cell? ⟨b, o + i * 2 + 1, none⟩ = some (.string (bs (vlC cs i)))) ∧ (nmC cs i).length ≤ 9223372036854775807 ∧ (vlC cs i).length ≤ 9223372036854775807) := Lib.hid (fun i hi => by
    obtain ⟨b, o, e, hl, ⟨h1, h2⟩, h3⟩ := HA.out i hi
    exact ⟨b, o, e, ⟨(HB1.out.cell hl).trans h1, (HB1.out.cell hl).trans h2⟩, h3⟩)
  clear HA
  go_loopw [4] (fun i wr => ∃ k : Nat, k ≤ L ∧ i = .int .i64 k ∧ Hid (∀ j, j < k → nmAt cs j) ∧ w1 = wr) (fun i _ => L - (intOf i).toNat)
  case atStart => exact ⟨0, Nat.zero_le _, rfl, Lib.hid (fun j hj => absurd hj (Nat.not_lt_zero _)), rfl⟩
  case round =>
    obtain ⟨k, hk, rfl, HP, rfl⟩ := hrel
    by_cases hlt : k < L
    · obtain ⟨b, o, rfl, ⟨q1, _⟩, hl1, _⟩ := HCl.out k hlt
      have hsz : (bs (nmC cs k)).size = (nmC cs k).length := bs_size _
      have HSL : Hid ((bs (nmC cs k)).data.toList = nmC cs k) := Lib.hid (by simp [bs])
      generalize bs (nmC cs k) = s at *
      have hs : s.size ≤ 9223372036854775807 := by omega
      have HSZ := Lib.hid hsz
      clear hsz hl1
      go_upto_region 8 with (fail)
      go_cut [6] from 20 to 105 (fun v wx => ∃ z : Bool, v = .bool z ∧ Hid (z = true ↔ 1 ≤ s.size ∧ s.size ≤ 8) ∧ w1 = wx)
      case first =>
        by_cases e1 : 1 ≤ s.size
        · have d1 : decide ((1 : Int) ≤ (s.size : Int)) = true := by simp; omega
          by_cases e2 : s.size ≤ 8
          · have d2 : decide ((s.size : Int) ≤ 8) = true := by simp; omega
            go_wp2
            go_meet
            case rel => exact ⟨true, rfl, Lib.hid ⟨fun _ => ⟨e1, e2⟩, fun _ => rfl⟩, rfl⟩
          · have d2 : decide ((s.size : Int) ≤ 8) = false := by simp; omega
            go_wp2
            go_meet
            case rel => exact ⟨false, rfl, Lib.hid ⟨fun h => (by cases h), fun h => absurd h.2 e2⟩, rfl⟩
        · have d1 : decide ((1 : Int) ≤ (s.size : Int)) = false := by simp; omega
          go_wp2
          go_meet
          case rel => exact ⟨false, rfl, Lib.hid ⟨fun h => (by cases h), fun h => absurd h.1 e1⟩, rfl⟩
      clear q1
      obtain ⟨z0, rfl, HZ0, rfl⟩ := hcut
      go_wp2
      go_loopw [6, 7] (fun v i wr => ∃ (j : Nat) (z : Bool), j ≤ s.size ∧ i = .int .i64 j ∧ v = .bool z ∧ Hid (z = true ↔ (1 ≤ s.size ∧ s.size ≤ 8) ∧ ∀ i (hi : i < s.size), i < j → nmB s[i]) ∧ w1 = wr) (fun _ i _ => s.size - (intOf i).toNat)
      case atStart => exact ⟨0, z0, Nat.zero_le _, rfl, rfl, Lib.hid ⟨fun h => ⟨HZ0.out.1 h, fun i _ hi => absurd hi (Nat.not_lt_zero _)⟩, fun h => HZ0.out.2 h.1⟩, rfl⟩
      case round =>
        clear HZ0
        obtain ⟨j, z, hj, rfl, rfl, HZ, rfl⟩ := hrel
        by_cases hjt : j < s.size
        · have hlt8 := s[j].toNat_lt
          have HST := Lib.hid (fun (z' : Bool) (hb : z' = true ↔ z = true ∧ nmB s[j]) => all_step hjt HZ.out hb)
          have HIF := Lib.hid (nmB_iff s[j])
          clear HZ
          generalize hcn : s[j].toNat = cn at *
          go_upto_region 13 with (fail)
          go_cut [9] from 39 to 73 (fun v wx => ∃ y : Bool, v = .bool y ∧ Hid (y = true ↔ (65 ≤ cn ∧ cn ≤ 90) ∨ (48 ≤ cn ∧ cn ≤ 57)) ∧ w1 = wx)
          case first =>
            have g : cn < 48 ∨ (48 ≤ cn ∧ cn ≤ 57) ∨ (57 < cn ∧ cn < 65) ∨ (65 ≤ cn ∧ cn ≤ 90) ∨ 90 < cn := by omega
            rcases g with g | g | g | g | g
            · have e1 : decide ((65 : Int) ≤ (cn : Int)) = false := by simp; omega
              have e3 : decide ((48 : Int) ≤ (cn : Int)) = false := by simp; omega
              go_wp2
              go_meet
              case rel => exact ⟨false, rfl, Lib.hid ⟨fun h => (by cases h), fun h => (by omega)⟩, rfl⟩
            · have e1 : decide ((65 : Int) ≤ (cn : Int)) = false := by simp; omega
              have e3 : decide ((48 : Int) ≤ (cn : Int)) = true := by simp; omega
              have e4 : decide ((cn : Int) ≤ 57) = true := by simp; omega
              go_wp2
              go_meet
              case rel => exact ⟨true, rfl, Lib.hid ⟨fun h => Or.inr g, fun h => rfl⟩, rfl⟩
            · have e1 : decide ((65 : Int) ≤ (cn : Int)) = false := by simp; omega
              have e3 : decide ((48 : Int) ≤ (cn : Int)) = true := by simp; omega
              have e4 : decide ((cn : Int) ≤ 57) = false := by simp; omega
              go_wp2
              go_meet
              case rel => exact ⟨false, rfl, Lib.hid ⟨fun h => (by cases h), fun h => (by omega)⟩, rfl⟩
            · have e1 : decide ((65 : Int) ≤ (cn : Int)) = true := by simp; omega
              have e2 : decide ((cn : Int) ≤ 90) = true := by simp; omega
              go_wp2
              go_meet
              case rel => exact ⟨true, rfl, Lib.hid ⟨fun h => Or.inl g, fun h => rfl⟩, rfl⟩
            · have e1 : decide ((65 : Int) ≤ (cn : Int)) = true := by simp; omega
              have e2 : decide ((cn : Int) ≤ 90) = false := by simp; omega
              have e3 : decide ((48 : Int) ≤ (cn : Int)) = true := by simp; omega
              have e4 : decide ((cn : Int) ≤ 57) = false := by simp; omega
              go_wp2
              go_meet
              case rel => exact ⟨false, rfl, Lib.hid ⟨fun h => (by cases h), fun h => (by omega)⟩, rfl⟩
          obtain ⟨y, rfl, HY, rfl⟩ := hcut
          cases z with
          | false =>
            have HR := Lib.hid (HST.out false ⟨fun h => (by cases h), fun h => h.1⟩)
            clear HST HIF
            go_wp2
            go_roundw
            case rel => exact ⟨j + 1, false, by omega, by go_num, rfl, HR, by simp⟩
            case measure => simp [intOf]; omega
          | true =>
            cases y with
            | true =>
              have HR := Lib.hid (HST.out true ⟨fun _ => ⟨rfl, HIF.out.2 (by have := HY.out.1 rfl; omega)⟩, fun _ => rfl⟩)
              clear HST HIF
              go_wp2
              go_roundw
              case rel => exact ⟨j + 1, true, by omega, by go_num, rfl, HR, by simp⟩
              case measure => simp [intOf]; omega
            | false =>
              by_cases g5 : cn = 45
              · have HR := Lib.hid (HST.out true ⟨fun _ => ⟨rfl, HIF.out.2 (by omega)⟩, fun _ => rfl⟩)
                have b5 : ((cn : Int) == 45) = true := by simp; omega
                clear HST HIF g5
                go_wp2
                go_roundw
                case rel => exact ⟨j + 1, true, by omega, by go_num, rfl, HR, by simp⟩
                case measure => simp [intOf]; omega
              · have b5 : ((cn : Int) == 45) = false := by simp; omega
                by_cases g6 : cn = 95
                · have HR := Lib.hid (HST.out true ⟨fun _ => ⟨rfl, HIF.out.2 (by omega)⟩, fun _ => rfl⟩)
                  have b6 : ((cn : Int) == 95) = true := by simp; omega
                  clear HST HIF g5 g6
                  go_wp2
                  go_roundw
                  case rel => exact ⟨j + 1, true, by omega, by go_num, rfl, HR, by simp⟩
                  case measure => simp [intOf]; omega
                · have hno : ¬ ((65 ≤ cn ∧ cn ≤ 90) ∨ (48 ≤ cn ∧ cn ≤ 57)) := fun h => (by have := HY.out.2 h; cases this)
                  have HR := Lib.hid (HST.out false ⟨fun h => (by cases h), fun h => absurd (HIF.out.1 h.2) (by omega)⟩)
                  have b6 : ((cn : Int) == 95) = false := by simp; omega
                  clear HST HIF g5 g6 hno
                  go_wp2
                  go_roundw
                  case rel => exact ⟨j + 1, false, by omega, by go_num, rfl, HR, by simp⟩
                  case measure => simp [intOf]; omega
        · obtain rfl : j = s.size := by omega
          have HZ2 : Hid (z = true ↔ nmOk (nmC cs k)) := Lib.hid (by
            rw [HZ.out]
            have hl := ba_len s
            rw [HSL.out] at hl
            constructor
            · rintro ⟨h1, h2⟩
              refine ⟨by omega, by omega, ?_⟩
              rw [← HSL.out]
              exact ba_all (fun i hi => h2 i hi hi)
            · rintro ⟨h1, h2, h3⟩
              rw [← HSL.out] at h3
              exact ⟨by omega, fun i hi _ => h3 _ (ba_mem hi)⟩)
          clear HZ hjt
          go_wp2
          have HSTr : Hid (s.toList = nmC cs k) := Lib.hid (by rw [Lib.toList_data]; exact HSL.out)
          go_loopw [6, 10] (fun v i wr => ∃ (j : Nat) (z : Bool), j ≤ 7 ∧ i = .int .i64 j ∧ v = .bool z ∧ Hid (z = true ↔ nmOk (nmC cs k) ∧ ∀ i, i < j → ownN.getD i [] ≠ nmC cs k) ∧ w1 = wr) (fun _ i _ => 7 - (intOf i).toNat)
          case atStart => exact ⟨0, z, Nat.zero_le _, rfl, rfl, Lib.hid ⟨fun h => ⟨HZ2.out.1 h, fun i hi => absurd hi (Nat.not_lt_zero _)⟩, fun h => HZ2.out.2 h.1⟩, rfl⟩
          case round =>
            clear HZ2
            obtain ⟨j, z, hj, rfl, rfl, HZ, rfl⟩ := hrel
            by_cases hjt : j < 7
            · have HST := Lib.hid (fun (z' : Bool) (hb : z' = true ↔ z = true ∧ ownN.getD j [] ≠ nmC cs k) => seq_step HZ.out hb)
              have c1 := HOw.out j hjt
              have hts := bs_toList (ownN.getD j [])
              clear HZ
              cases z with
              | false =>
                have HR := Lib.hid (HST.out false ⟨fun h => (by cases h), fun h => h.1⟩)
                clear HST hts
                go_wp2
                go_roundw
                case rel => exact ⟨j + 1, false, by omega, by go_num, rfl, HR, by simp⟩
                case measure => simp [intOf]; omega
              | true =>
                by_cases e : ownN.getD j [] = nmC cs k
                · have HR := Lib.hid (HST.out false ⟨fun h => (by cases h), fun h => absurd e h.2⟩)
                  have he : ((bs (ownN.getD j [])).toList == s.toList) = true := by rw [hts, HSTr.out, e, beq_self_eq_true]
                  clear HST hts e
                  generalize bs (ownN.getD j []) = t at *
                  go_wp2
                  go_roundw
                  case rel => exact ⟨j + 1, false, by omega, by go_num, rfl, HR, by simp⟩
                  case measure => simp [intOf]; omega
                · have HR := Lib.hid (HST.out true ⟨fun _ => ⟨rfl, e⟩, fun _ => rfl⟩)
                  have he : ((bs (ownN.getD j [])).toList == s.toList) = false := by rw [hts, HSTr.out, beq_eq_false_iff_ne]; exact e
                  clear HST hts e
                  generalize bs (ownN.getD j []) = t at *
                  go_wp2
                  go_roundw
                  case rel => exact ⟨j + 1, true, by omega, by go_num, rfl, HR, by simp⟩
                  case measure => simp [intOf]; omega
            · obtain rfl : j = 7 := by omega
              have HZ2 : Hid (z = true ↔ nmOk (nmC cs k) ∧ nmC cs k ∉ ownN) := Lib.hid (by rw [HZ.out, own_get])
              clear HZ hjt
              go_wp2
              go_loopw [6, 11] (fun v i wr => ∃ (j : Nat) (z : Bool), j ≤ k ∧ i = .int .i64 j ∧ v = .bool z ∧ Hid (z = true ↔ (nmOk (nmC cs k) ∧ nmC cs k ∉ ownN) ∧ ∀ i, i < j → nmC cs i ≠ nmC cs k) ∧ w1 = wr) (fun _ i _ => k - (intOf i).toNat)
              case atStart => exact ⟨0, z, Nat.zero_le _, rfl, rfl, Lib.hid ⟨fun h => ⟨HZ2.out.1 h, fun i hi => absurd hi (Nat.not_lt_zero _)⟩, fun h => HZ2.out.2 h.1⟩, rfl⟩
              case round =>
                clear HZ2
                obtain ⟨j, z, hj, rfl, rfl, HZ, rfl⟩ := hrel
                by_cases hjt : j < k
                · have HST := Lib.hid (fun (z' : Bool) (hb : z' = true ↔ z = true ∧ nmC cs j ≠ nmC cs k) => seq_step HZ.out hb)
                  obtain ⟨b', o', e1, ⟨c1, _⟩, _, _⟩ := HCl.out j (by omega)
                  obtain ⟨rfl, rfl⟩ : b = b' ∧ o = o' := by cases e1; exact ⟨rfl, rfl⟩
                  have hts := bs_toList (nmC cs j)
                  clear HZ e1
                  cases z with
                  | false =>
                    have HR := Lib.hid (HST.out false ⟨fun h => (by cases h), fun h => h.1⟩)
                    clear HST hts
                    go_wp2
                    go_roundw
                    case rel => exact ⟨j + 1, false, by omega, by go_num, rfl, HR, by simp⟩
                    case measure => simp [intOf]; omega
                  | true =>
                    by_cases e : nmC cs j = nmC cs k
                    · have HR := Lib.hid (HST.out false ⟨fun h => (by cases h), fun h => absurd e h.2⟩)
                      have he : ((bs (nmC cs j)).toList == s.toList) = true := by rw [hts, HSTr.out, e, beq_self_eq_true]
                      clear HST hts e
                      generalize bs (nmC cs j) = t at *
                      go_wp2
                      go_roundw
                      case rel => exact ⟨j + 1, false, by omega, by go_num, rfl, HR, by simp⟩
                      case measure => simp [intOf]; omega
                    · have HR := Lib.hid (HST.out true ⟨fun _ => ⟨rfl, e⟩, fun _ => rfl⟩)
                      have he : ((bs (nmC cs j)).toList == s.toList) = false := by rw [hts, HSTr.out, beq_eq_false_iff_ne]; exact e
                      clear HST hts e
                      generalize bs (nmC cs j) = t at *
                      go_wp2
                      go_roundw
                      case rel => exact ⟨j + 1, true, by omega, by go_num, rfl, HR, by simp⟩
                      case measure => simp [intOf]; omega
                · obtain rfl : j = k := by omega
                  have HZ2 : Hid (z = true ↔ nmAt cs j) := Lib.hid (by
                    rw [HZ.out]
                    exact ⟨fun h => ⟨h.1.1, h.1.2, h.2⟩, fun h => ⟨⟨h.1, h.2.1⟩, h.2.2⟩⟩)
                  clear HZ hjt
                  cases z with
                  | false =>
                    have HE := Lib.hid (HN.out (fun h => by
                      have := HZ2.out.2 (h j (by rw [HL.out]; exact hlt))
                      cases this))
                    clear HZ2
                    go_wp2
                    go_ret
                    exact ⟨by rw [HE.out]; rfl, HB1.out⟩
                  | true =>
                    have HR := Lib.hid (nms_step HP.out (HZ2.out.1 rfl))
                    clear HZ2 HP
                    go_wp2
                    go_roundw
                    case rel => exact ⟨j + 1, by omega, by go_num, HR, by simp⟩
                    case measure => simp [intOf]; omega
    · obtain rfl : k = L := by omega
      have HNs : Hid (nmsOk cs) := Lib.hid (fun i hi => HP.out i (by rw [HL.out] at hi; exact hi))
      clear HP hlt
      go_wp2
      go_loopw [12] (fun i wr => ∃ m : Nat, m ≤ k ∧ i = .int .i64 m ∧ Hid (∀ j, j < m → vlOk (vlC cs j)) ∧ w1 = wr) (fun i _ => k - (intOf i).toNat)
      case atStart => exact ⟨0, Nat.zero_le _, rfl, Lib.hid (fun j hj => absurd hj (Nat.not_lt_zero _)), rfl⟩
      case round =>
        obtain ⟨i, hi, rfl, HQ, rfl⟩ := hrel
        by_cases hit : i < k
        · obtain ⟨b, o, rfl, ⟨_, q2⟩, _, hl2⟩ := HCl.out i hit
          have hsz : (bs (vlC cs i)).size = (vlC cs i).length := bs_size _
          have HSL : Hid ((bs (vlC cs i)).data.toList = vlC cs i) := Lib.hid (by simp [bs])
          have HBad : Hid (¬ vlOk (vlC cs i) → ce = 1) := Lib.hid (fun h => HVl.out HNs.out (fun h2 => h (h2 i (by rw [HL.out]; exact hit))))
          generalize bs (vlC cs i) = s at *
          have hs : s.size ≤ 9223372036854775807 := by omega
          have HSZ := Lib.hid hsz
          clear hsz hl2
          by_cases g0 : 70 < s.size
          · have d0 : decide ((70 : Int) < (s.size : Int)) = true := by simp; omega
            have HE := Lib.hid (HBad.out (fun h => by have := h.1; rw [← HSZ.out] at this; omega))
            go_wp2
            go_ret
            exact ⟨by rw [HE.out]; rfl, HB1.out⟩
          have H70 : Hid ((vlC cs i).length ≤ 70) := Lib.hid (by rw [← HSZ.out]; omega)
          have d0 : decide ((70 : Int) < (s.size : Int)) = false := by simp; omega
          by_cases g1 : 0 < s.size
          · have d1 : decide ((0 : Int) < (s.size : Int)) = true := by simp; omega
            have hne : s.data.toList ≠ [] := fun e => by have := ba_len s; rw [e] at this; simp at this; omega
            have hh := ba_head g1 hne
            have hla := ba_last (s := s) (by omega) hne
            by_cases p0 : s[0] = 32
            · have HE := Lib.hid (HBad.out (fun h => by
                have := (h.2.1 (by rw [← HSL.out]; exact hne)).1
                simp only [← HSL.out] at this
                rw [hh] at this
                exact this p0))
              have b0 : ((s[0].toNat : Int) == 32) = true := by rw [p0]; rfl
              clear hh hla p0 hne
              go_wp2
              go_ret
              exact ⟨by rw [HE.out]; rfl, HB1.out⟩
            have b0 : ((s[0].toNat : Int) == 32) = false := by
              rw [beq_eq_false_iff_ne]
              intro e
              exact p0 (UInt8.toNat_inj.1 (show s[0].toNat = (32 : UInt8).toNat from Int.ofNat.inj e))
            have hlt : s.size - 1 < s.size := by omega
            by_cases p1 : s[s.size - 1] = 32
            · have HE := Lib.hid (HBad.out (fun h => by
                have := (h.2.1 (by rw [← HSL.out]; exact hne)).2
                simp only [← HSL.out] at this
                rw [hla] at this
                exact this p1))
              have b1 : ((s[s.size - 1].toNat : Int) == 32) = true := by rw [p1]; rfl
              clear hh hla p0 p1 hne
              go_wp2
              go_ret
              exact ⟨by rw [HE.out]; rfl, HB1.out⟩
            have b1 : ((s[s.size - 1].toNat : Int) == 32) = false := by
              rw [beq_eq_false_iff_ne]
              intro e
              exact p1 (UInt8.toNat_inj.1 (show s[s.size - 1].toNat = (32 : UInt8).toNat from Int.ofNat.inj e))
            have HEd : Hid (∀ h : vlC cs i ≠ [], (vlC cs i).head h ≠ 32 ∧ (vlC cs i).getLast h ≠ 32) := Lib.hid (by
              rw [← HSL.out]
              exact fun _ => ⟨by rw [hh]; exact p0, by rw [hla]; exact p1⟩)
            clear hh hla p0 p1 hne
            go_wp2
            clear b0 b1 d0 d1
            go_loopw [15] (fun v wr => ∃ j : Nat, j ≤ s.size ∧ v = .int .i64 j ∧ Hid (∀ i (hi : i < s.size), i < j → 32 ≤ s[i].toNat ∧ s[i].toNat ≤ 126) ∧ w1 = wr) (fun v _ => s.size - (intOf v).toNat)
            case atStart => exact ⟨0, Nat.zero_le _, rfl, Lib.hid (fun i _ hi => absurd hi (Nat.not_lt_zero _)), rfl⟩
            case round =>
              obtain ⟨j, hj, rfl, HC, rfl⟩ := hrel
              by_cases hjt : j < s.size
              · have hlt8 := s[j].toNat_lt
                by_cases g : 32 ≤ s[j].toNat ∧ s[j].toNat ≤ 126
                · have HC2 : Hid (∀ i (hi : i < s.size), i < j + 1 → 32 ≤ s[i].toNat ∧ s[i].toNat ≤ 126) := Lib.hid (fun i hi hij => by
                    by_cases e : i = j
                    · subst e; exact g
                    · exact HC.out i hi (by omega))
                  have e1 : decide ((s[j].toNat : Int) < 32) = false := by simp; omega
                  have e2 : decide ((126 : Int) < (s[j].toNat : Int)) = false := by simp; omega
                  clear HC g
                  go_wp2
                  go_roundw
                  case rel => exact ⟨j + 1, by omega, by go_num, HC2, by simp⟩
                  case measure => simp [intOf]; omega
                · have HE := Lib.hid (HBad.out (fun h => g (h.2.2 _ (by rw [← HSL.out]; exact ba_mem hjt))))
                  have g3 : s[j].toNat < 32 ∨ 126 < s[j].toNat := by omega
                  clear g HC
                  rcases g3 with g3 | g3
                  all_goals
                    go_wp2
                    go_ret
                    exact ⟨by rw [HE.out]; rfl, HB1.out⟩
              · have HR := Lib.hid (vls_step HQ.out (show vlOk (vlC cs i) from ⟨H70.out, HEd.out, by rw [← HSL.out]; exact ba_all (fun i hi => HC.out i hi (by omega))⟩))
                clear HC
                go_wp2
                go_roundw
                case rel => exact ⟨i + 1, by omega, by go_num, HR, by simp⟩
                case measure => simp [intOf]; omega
          · have d1 : decide ((0 : Int) < (s.size : Int)) = false := decide_eq_false (by omega)
            have HEd : Hid (∀ h : vlC cs i ≠ [], (vlC cs i).head h ≠ 32 ∧ (vlC cs i).getLast h ≠ 32) := Lib.hid (fun h => by
              have := List.length_pos_iff.2 h
              rw [← HSZ.out] at this
              omega)
            go_wp2
            clear d0 d1
            go_loopw [15] (fun v wr => ∃ j : Nat, j ≤ s.size ∧ v = .int .i64 j ∧ Hid (∀ i (hi : i < s.size), i < j → 32 ≤ s[i].toNat ∧ s[i].toNat ≤ 126) ∧ w1 = wr) (fun v _ => s.size - (intOf v).toNat)
            case atStart => exact ⟨0, Nat.zero_le _, rfl, Lib.hid (fun i _ hi => absurd hi (Nat.not_lt_zero _)), rfl⟩
            case round =>
              obtain ⟨j, hj, rfl, HC, rfl⟩ := hrel
              by_cases hjt : j < s.size
              · exact absurd hjt (by omega)
              · have HR := Lib.hid (vls_step HQ.out (show vlOk (vlC cs i) from ⟨H70.out, HEd.out, by rw [← HSL.out]; exact ba_all (fun i hi => HC.out i hi (by omega))⟩))
                clear HC
                go_wp2
                go_roundw
                case rel => exact ⟨i + 1, by omega, by go_num, HR, by simp⟩
                case measure => simp [intOf]; omega
        · obtain rfl : i = k := by omega
          have HE := Lib.hid (HOk.out HNs.out (fun j hj => HQ.out j (by rw [HL.out] at hj; exact hj)))
          clear HQ
          go_wp2
          go_ret
          exact ⟨by rw [HE.out]; rfl, HB1.out⟩
end Go.Proofs.YtjcmpkkflboaoaaGreatDoor
