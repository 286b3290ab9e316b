/- The pixels that a file's bytes give, as they are stored: plain laws; rows kept. -/
import Derived.Test.YtjcmpkkflboaoaaGreatDoorRdJ
import Derived.Test.YtjcmpkkflboaoaaGreatDoorOutC
namespace Go.Proofs.YtjcmpkkflboaoaaGreatDoor
open Go.RowKit

def pxU (b : List UInt8) (i : Nat) : Nat := (pxN b i + 32768) % 65536
theorem pxV_eq (b : List UInt8) (i : Nat) : pxV b i = (pxU b i : Int) := by unfold pxV pxU; omega
theorem pxU_lt (b : List UInt8) (i : Nat) : pxU b i < 65536 := Nat.mod_lt _ (by decide)
/-- Where a pixel lies in the bytes. -/
def pxP (d V K j : Nat) : Nat := d + 2 * ((K - 1 - j / V) * V + j % V)
theorem pxF_eq (b : List UInt8) (d V K j : Nat) : pxF b d V K j = (pxU b (pxP d V K j) : Int) := pxV_eq _ _
/-- The lowest k rows are stored. -/
def FillO (b : List UInt8) (d V K k : Nat) (M : Nat → Nat) : Prop := ∀ j, j < K * V → M j = if (K - k) * V ≤ j then pxU b (pxP d V K j) else 0
/-- .. and of the next row, Y, the first x. -/
def FillI (b : List UInt8) (d V K Y x : Nat) (M : Nat → Nat) : Prop := ∀ j, j < K * V → M j = if Y * V + V ≤ j ∨ (Y * V ≤ j ∧ j < Y * V + x) then pxU b (pxP d V K j) else 0
theorem FillO.zero (b : List UInt8) (d V K : Nat) : FillO b d V K 0 (fun _ => 0) := fun j hj => by rw [if_neg (by rw [Nat.sub_zero]; omega)]
theorem FillO.inner {b : List UInt8} {d V K k Y : Nat} {M : Nat → Nat} (h : FillO b d V K k M) (hY : K - 1 - k = Y) (hk : k < K) : FillI b d V K Y 0 M := fun j hj => by
  have e : (K - k) * V = Y * V + V := by rw [show K - k = Y + 1 by omega, Nat.add_mul, Nat.one_mul]
  rw [h j hj, e]
  by_cases c : Y * V + V ≤ j
  · rw [if_pos c, if_pos (Or.inl c)]
  · rw [if_neg c, if_neg (by omega)]
theorem FillI.outer {b : List UInt8} {d V K k Y : Nat} {M : Nat → Nat} (h : FillI b d V K Y V M) (hY : K - 1 - k = Y) (hk : k < K) : FillO b d V K (k + 1) M := fun j hj => by
  have e : (K - (k + 1)) * V = Y * V := by rw [show K - (k + 1) = Y by omega]
  rw [h j hj, e]
  by_cases c : Y * V ≤ j
  · rw [if_pos c, if_pos (by omega)]
  · rw [if_neg c, if_neg (by omega)]
theorem pxP_at {d V K Y x : Nat} (hx : x < V) : pxP d V K (Y * V + x) = d + 2 * ((K - 1 - Y) * V + x) := by
  unfold pxP
  rw [Nat.mul_comm Y V, Nat.mul_add_div (by omega), Nat.div_eq_of_lt hx, Nat.mul_add_mod, Nat.mod_eq_of_lt hx, Nat.add_zero]
theorem FillI.step {b : List UInt8} {d V K Y x : Nat} {M : Nat → Nat} (h : FillI b d V K Y x M) (hx : x < V) : FillI b d V K Y (x + 1) (putF M (Y * V + x) (pxU b (d + 2 * ((K - 1 - Y) * V + x)))) := fun j hj => by
  by_cases c : j = Y * V + x
  · subst c
    rw [putF_same, if_pos (by omega), pxP_at hx]
  · rw [putF_other _ _ c, h j hj]
    by_cases c2 : Y * V + V ≤ j ∨ (Y * V ≤ j ∧ j < Y * V + x)
    · rw [if_pos c2, if_pos (by omega)]
    · rw [if_neg c2, if_neg (by omega)]
theorem FillO.all {b : List UInt8} {d V K : Nat} {M : Nat → Nat} (h : FillO b d V K K M) : ∀ j, j < K * V → (M j : Int) = pxF b d V K j := fun j hj => by
  rw [h j hj, if_pos (by rw [Nat.sub_self, Nat.zero_mul]; exact Nat.zero_le _), pxF_eq]
theorem CRow.belowG {w w' : World} {bR oR g : Nat} {cs : List Crd} (h : CRow w (some ⟨bR, oR, none⟩) cs) (hb : Below g w w') (hlt : bR < g) : CRow w' (some ⟨bR, oR, none⟩) cs := by
  rcases h with h | ⟨b, o, e, h⟩
  · exact Or.inl h
  · obtain ⟨rfl, rfl⟩ : bR = b ∧ oR = o := by cases e; exact ⟨rfl, rfl⟩
    refine Or.inr ⟨bR, oR, rfl, fun i hi => ?_⟩
    obtain ⟨⟨h1, h2⟩, h3⟩ := h i hi
    exact ⟨⟨(hb.cell (p := ⟨bR, oR + i * 2, none⟩) hlt).trans h1, (hb.cell (p := ⟨bR, oR + i * 2 + 1, none⟩) hlt).trans h2⟩, h3⟩
theorem OutC.irow {w : World} {g n : Nat} {M : Nat → Nat} {f : Nat → Int} (h : OutC w g n M) (hf : ∀ j, j < n → (M j : Int) = f j) : IRow w (some ⟨g, 0, none⟩) n f := by
  refine Or.inr ⟨g, 0, rfl, fun j hj => ?_⟩
  rw [Nat.zero_add, (h j hj).1, hf j hj]
theorem OutC.setOther {w : World} {g n b k : Nat} {M : Nat → Nat} {v : Value} (h : OutC w g n M) (hne : ¬ b = g) : OutC (w.setCell ⟨b, k, none⟩ v) g n M := fun j hj => by
  refine ⟨?_, ?_⟩
  · rw [← (h j hj).1]
    exact World.cell?_setCell_far _ _ _ _ hne
  · rw [World.frozen?_setCell]; exact (h j hj).2
theorem OutC.drw {w : World} {g n : Nat} {M : Nat → Nat} (h : OutC w g n M) : OutC w.drew g n M := fun j hj => by simpa using h j hj
/-- The number of two bytes, as Go makes it. -/
theorem two_bytes {x y : Nat} (hx : x < 256) (hy : y < 256) : bits .or .u16 ((x * 256 : Nat) : Int) (y : Int) = ((x * 256 + y : Nat) : Int) := by
  rw [u16_or_nat _ _ (by omega) (by omega)]
  congr 1
  exact nat_join 8 (x * 256) y (by omega) (by omega)
theorem i16_of {n : Nat} (h : n < 65536) : IntKind.i16.wrap (n : Int) + 32768 = (((n + 32768) % 65536 : Nat) : Int) := by
  unfold IntKind.wrap
  simp [IntKind.signed, IntKind.bits]
  split <;> omega
theorem pixel_val {n0 n1 : Nat} (h0 : n0 < 256) (h1 : n1 < 256) : IntKind.i64.wrap (IntKind.i64.wrap (IntKind.i16.wrap (bits .or .u16 (IntKind.u16.wrap (IntKind.u16.wrap (n0 : Int) * 256)) (IntKind.u16.wrap (n1 : Int)))) + 32768) = (((n0 * 256 + n1 + 32768) % 65536 : Nat) : Int) := by
  have e0 : IntKind.u16.wrap (IntKind.u16.wrap (n0 : Int) * 256) = ((n0 * 256 : Nat) : Int) := by rw [wrap_u16, wrap_u16]; omega
  have e1 : IntKind.u16.wrap (n1 : Int) = (n1 : Int) := by rw [wrap_u16]; omega
  rw [e0, e1, two_bytes h0 h1]
  have e2 := i16_of (n := n0 * 256 + n1) (by omega)
  have e3 : IntKind.i16.wrap ((n0 * 256 + n1 : Nat) : Int) = (((n0 * 256 + n1 + 32768) % 65536 : Nat) : Int) - 32768 := by omega
  have hlt : (n0 * 256 + n1 + 32768) % 65536 < 65536 := Nat.mod_lt _ (by decide)
  rw [e3]
  generalize (n0 * 256 + n1 + 32768) % 65536 = z at *
  have a1 : IntKind.i64.wrap ((z : Int) - 32768) = (z : Int) - 32768 := IntWalk.i64_in _ (by omega)
  have a2 : (z : Int) - 32768 + 32768 = (z : Int) := by omega
  rw [a1, a2]
  exact IntWalk.i64_in _ (by omega)
theorem write_bad (ad : Nat → Addr) (V K : Nat) (f : Nat → Int) (a : Option Addr) (n cap : Nat) (cs : List Crd) (ca : Option Addr) (cc : Nat) (w : World) (he : Errs w ad [0, 1, 4, 9]) (ht : Pow10 w) (hp : IRow w a n f) (g : picG V K n f) (hc : CRow w ca cs) (hcc : cs.length ≤ cc) (hcl : cs.length ≤ 1000000) (hok : ¬ crdOk cs) :
    Calls Tryz.prog 7 #[.agg #[.int .i64 V, .int .i64 K, .slice a n cap], .slice ca cs.length cc] w fun e w' => ∃ i, e = .returned (.tuple #[.slice none 0 0, errV ad i]) ∧ Below w.heap.size w w' := by
  by_cases c : 100 < cs.length
  · exact (write_bound ad V K f a n cap ca cs.length cc w (fun i hi => he i (by simp at hi ⊢; omega)) hp g c (by omega)).mono fun e w' ⟨h1, h2⟩ => ⟨1, h1, h2⟩
  · exact (write_crdE ad V K f a n cap cs ca cc w he ht hp g hc hcc (by omega) hok).mono fun e w' ⟨h1, h2⟩ => ⟨_, h1, h2⟩
theorem IRow.setG {w : World} {g o n b k : Nat} {f : Nat → Int} {v : Value} (h : IRow w (some ⟨g, o, none⟩) n f) (hne : ¬ g = b) : IRow (w.setCell ⟨b, k, none⟩ v) (some ⟨g, o, none⟩) n f := by
  rcases h with h | ⟨b', o', e, h⟩
  · exact Or.inl h
  · obtain ⟨rfl, rfl⟩ : g = b' ∧ o = o' := by cases e; exact ⟨rfl, rfl⟩
    refine Or.inr ⟨g, o, rfl, fun j hj => ?_⟩
    rw [← h j hj]
    exact World.cell?_setCell_far _ _ _ _ (Ne.symm hne)
end Go.Proofs.YtjcmpkkflboaoaaGreatDoor
