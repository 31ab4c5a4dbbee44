/- Package field: the function literal in Interpolate. -/
import Derived.Test.YtahlhiiekgnmpabFldG
import Derived.Test.YtahlhiiekgnmpabMaps
namespace Go.Proofs.Ytahlhiiekgnmpab
open Go.RowKit

def joinV (ps : List (FP × FP)) (x : FP) (vl : Nat → FP) (i k : Nat) : FP := ((x - px ps k) * vl i - (x - px ps i) * vl (i + 1)) * (px ps i - px ps k)⁻¹

set_option maxHeartbeats 1000000 in
set_option maxRecDepth 100000 in
theorem fld_join (ps : List (FP × FP)) (x : FP) (b off cp Bp Bx Bv : Nat) (vl : Nat → FP) (i k : Nat) (w : World)
    (hp : w.cell? ⟨Bp, 0, none⟩ = some (.slice (some ⟨b, off, none⟩) ps.length cp)) (hx : w.cell? ⟨Bx, 0, none⟩ = some (.int .i64 (va x)))
    (hC : ∀ k, k < ps.length → w.cell? ⟨b, off + k * 2, none⟩ = some (.int .i64 (va (px ps k))) ∧ w.cell? ⟨b, off + k * 2 + 1, none⟩ = some (.int .i64 (va (py ps k))))
    (hv : ∀ j, j < 16 → w.cell? ⟨Bv, j, none⟩ = some (.int .i64 (va (vl j))) ∧ w.frozen? ⟨Bv, j, none⟩ = false)
    (hl : ps.length ≤ 16) (hcap : ps.length ≤ cp) (hmx : cp ≤ maxLen) (hi : i < k) (hk : k < ps.length) (hne : px ps i ≠ px ps k) :
    Calls Try.prog 42 #[.int .i64 i, .int .i64 k, .pointer (some ⟨Bp, 0, none⟩), .pointer (some ⟨Bx, 0, none⟩), .pointer (some ⟨Bv, 0, none⟩)] w
      fun e w' => e = .returned (.tuple #[]) ∧ ∃ n, (w.drewN n).setCell ⟨Bv, i, none⟩ (.int .i64 (va (joinV ps x vl i k))) = w' := by
  obtain ⟨c0, _⟩ := hC i (by omega)
  obtain ⟨d0, _⟩ := hC k hk
  obtain ⟨e0, f0⟩ := hv i (by omega)
  obtain ⟨e1, _⟩ := hv (i + 1) (by omega)
  have HJ : Hid (joinV ps x vl i k = ((x - px ps k) * vl i - (x - px ps i) * vl (i + 1)) * (px ps i - px ps k)⁻¹) := rfl
  obtain ⟨J, hJ⟩ : ∃ J, joinV ps x vl i k = J := ⟨_, rfl⟩
  rw [hJ] at HJ ⊢
  obtain ⟨p, hpp⟩ : ∃ p, px ps i = p := ⟨_, rfl⟩
  obtain ⟨q, hqq⟩ : ∃ q, px ps k = q := ⟨_, rfl⟩
  obtain ⟨y, hy⟩ : ∃ y, vl i = y := ⟨_, rfl⟩
  obtain ⟨z, hz⟩ : ∃ z, vl (i + 1) = z := ⟨_, rfl⟩
  rw [hpp, hqq, hy, hz] at HJ
  rw [hpp] at c0 hne
  rw [hqq] at d0 hne
  rw [hy] at e0
  rw [hz] at e1
  clear hJ hpp hqq hy hz hC hv
  have hm0 : (0 : Int) ≤ (i : Int) := by omega
  have hm1 : (i : Int) < (ps.length : Int) := by omega
  have hm2 : (0 : Int) ≤ (k : Int) := by omega
  have hm3 : (k : Int) < (ps.length : Int) := by omega
  have hm4 : (i : Int) < 15 := by omega
  have hmc : (cp : Int) ≤ 9223372036854775807 := by unfold maxLen at hmx; omega
  clear hmx
  have u1 := va_mul_bd (x - q) y
  have u2 := va_mul_bd (x - p) z
  have s1 : IntKind.i64.wrap (va (x - q) * va y) = va (x - q) * va y := IntWalk.i64_in _ (by omega)
  have s2 : IntKind.i64.wrap (va (x - p) * va z) = va (x - p) * va z := IntWalk.i64_in _ (by omega)
  have t1 := prod_va (x - q) y
  have t1' := prod_va' (x - q) y
  have t2 := prod_va (x - p) z
  have t2' := prod_va' (x - p) z
  have s3 : IntKind.i64.wrap ((i : Int) + 1) = (i : Int) + 1 := IntWalk.i64_in _ (by omega)
  go_enter Try.func42, Try.ntmps42
  go_wp2_with fail
  go_quiet (fail)
  go_wp2_with fail
  go_quiet ((go_at_call 43; first | exact qt_same_add (fld_minus _ _ _) | exact qt_same (fld_minus _ _ _)))
  clear s1 s2 t1 t1' t2 t2' s3 u1 u2
  obtain ⟨g, hg⟩ : ∃ g, (x - q) * y - (x - p) * z = g := ⟨_, rfl⟩
  obtain ⟨r, hr⟩ : ∃ r, p - q = r := ⟨_, rfl⟩
  have hrne : r ≠ 0 := fun e => hne (by rw [e] at hr; grind)
  have hr0 : va r ≠ 0 := fun e => hrne (va_inj (by rw [e, va_zero]))
  have hrb := va_bd r
  have HR : Hid (p - q = r) := hr
  have HG : Hid ((x - q) * y - (x - p) * z = g) := hg
  have HE : Hid (va (el (va r))⁻¹ = va r⁻¹) := by show va _ = _; rw [el_va]
  have u1 := va_mul_bd g r⁻¹
  have s1 : IntKind.i64.wrap (va g * va r⁻¹) = va g * va r⁻¹ := IntWalk.i64_in _ (by omega)
  have t1 := prod_va g r⁻¹
  have t1' := prod_va' g r⁻¹
  clear hr hg
  go_wp2_with fail
  refine (fld_minus ((x - q) * y) ((x - p) * z) _).mono ?_
  rintro e w' ⟨rfl, rfl⟩
  rw [HG.out]
  go_wp2_with fail
  refine (fld_minus p q _).mono ?_
  rintro e w' ⟨rfl, rfl⟩
  rw [HR.out]
  go_wp2_with fail
  refine (fld_inverse (va r) _ (by omega) hrb.2).mono ?_
  rintro e w' ⟨rfl, rfl⟩
  rw [HE.out]
  go_wp2_with fail
  go_end0
  have hJ := HJ.out
  rw [HG.out, HR.out] at hJ
  rw [hJ]
  exact ⟨rfl, _, rfl⟩
end Go.Proofs.Ytahlhiiekgnmpab
