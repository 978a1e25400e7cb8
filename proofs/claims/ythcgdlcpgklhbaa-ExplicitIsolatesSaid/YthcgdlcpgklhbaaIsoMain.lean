/- The walk of ExplicitIsolates. No condition. -/
import Derived.Test.YthcgdlcpgklhbaaIsoWalk
import Derived.BigQuiet
namespace Go.Proofs.Ythcgdlcpgklhbaa
open Go.RowKit

set_option maxRecDepth 100000 in
set_option maxHeartbeats 4000000 in
theorem iso_walk (Ax Ay Au Av : Option Addr) (nx cx ny cy nu cu nv cv : Nat) (xs ys us vs : List Int) (right : Bool) (w : World)
    (hx : Ints w w.heap.size Ax nx cx xs) (hy : Ints w w.heap.size Ay ny cy ys) (hu : Ints w w.heap.size Au nu cu us) (hv : Ints w w.heap.size Av nv cv vs) :
    Calls Try.prog 5 #[.slice Ax nx cx, .slice Ay ny cy, .agg #[.bool right, .slice Au nu cu, .slice Av nv cv]] w fun e w' => e = .returned (.bool true) ∧ Below w.heap.size w w' := by
  have hcx := hx.cap
  have hcy := hy.cap
  have hcu := hu.cap
  have hcv := hv.cap
  rcases hlx : decide (200 < nx) with _ | _
  case true =>
    have HX := Lib.hid hlx
    clear hx hy hu hv hlx
    go_enter Try.func5, Try.ntmps5
    go_wp2_with fail
    refine (long_any _ _ _ true HX.out _).mono ?_
    rintro e w1 ⟨rfl, rfl⟩
    go_wp2_with fail
    go_ret
    exact ⟨rfl, (Below.refl _ _).alloc (Nat.le_refl _) _⟩
  rcases hly : decide (200 < ny) with _ | _
  case true =>
    have HX := Lib.hid hlx
    have HY := Lib.hid hly
    clear hx hy hu hv hlx hly
    go_enter Try.func5, Try.ntmps5
    go_wp2_with fail
    refine (long_any _ _ _ false HX.out _).mono ?_
    rintro e w1 ⟨rfl, rfl⟩
    go_wp2_with fail
    refine (long_any _ _ _ true HY.out _).mono ?_
    rintro e w1 ⟨rfl, rfl⟩
    go_wp2_with fail
    go_ret
    exact ⟨rfl, (Below.refl _ _).alloc (Nat.le_refl _) _⟩
  rcases hlu : decide (200 < nu) with _ | _
  case true =>
    have HX := Lib.hid hlx
    have HY := Lib.hid hly
    have HU := Lib.hid hlu
    clear hx hy hu hv hlx hly hlu
    go_enter Try.func5, Try.ntmps5
    go_wp2_with fail
    refine (long_any _ _ _ false HX.out _).mono ?_
    rintro e w1 ⟨rfl, rfl⟩
    go_wp2_with fail
    refine (long_any _ _ _ false HY.out _).mono ?_
    rintro e w1 ⟨rfl, rfl⟩
    go_wp2_with fail
    refine (long_any _ _ _ true HU.out _).mono ?_
    rintro e w1 ⟨rfl, rfl⟩
    go_wp2_with fail
    go_ret
    exact ⟨rfl, (Below.refl _ _).alloc (Nat.le_refl _) _⟩
  rcases hlv : decide (200 < nv) with _ | _
  case true =>
    have HX := Lib.hid hlx
    have HY := Lib.hid hly
    have HU := Lib.hid hlu
    have HV := Lib.hid hlv
    clear hx hy hu hv hlx hly hlu hlv
    go_enter Try.func5, Try.ntmps5
    go_wp2_with fail
    refine (long_any _ _ _ false HX.out _).mono ?_
    rintro e w1 ⟨rfl, rfl⟩
    go_wp2_with fail
    refine (long_any _ _ _ false HY.out _).mono ?_
    rintro e w1 ⟨rfl, rfl⟩
    go_wp2_with fail
    refine (long_any _ _ _ false HU.out _).mono ?_
    rintro e w1 ⟨rfl, rfl⟩
    go_wp2_with fail
    refine (long_any _ _ _ true HV.out _).mono ?_
    rintro e w1 ⟨rfl, rfl⟩
    go_wp2_with fail
    go_ret
    exact ⟨rfl, (Below.refl _ _).alloc (Nat.le_refl _) _⟩
  have HX := Lib.hid hlx
  have HY := Lib.hid hly
  have HU := Lib.hid hlu
  have HV := Lib.hid hlv
  have hnx : nx ≤ 200 := by simpa using hlx
  have hny : ny ≤ 200 := by simpa using hly
  have hnu : nu ≤ 200 := by simpa using hlu
  have hnv : nv ≤ 200 := by simpa using hlv
  have IX := Lib.hid hx
  have IY := Lib.hid hy
  have IU := Lib.hid hu
  have IV := Lib.hid hv
  clear hx hy hu hv hlx hly hlu hlv
  go_enter Try.func5, Try.ntmps5
  go_wp2_with fail
  refine (long_any _ _ _ false HX.out _).mono ?_
  rintro e w1 ⟨rfl, rfl⟩
  go_wp2_with fail
  refine (long_any _ _ _ false HY.out _).mono ?_
  rintro e w1 ⟨rfl, rfl⟩
  go_wp2_with fail
  refine (long_any _ _ _ false HU.out _).mono ?_
  rintro e w1 ⟨rfl, rfl⟩
  go_wp2_with fail
  refine (long_any _ _ _ false HV.out _).mono ?_
  rintro e w1 ⟨rfl, rfl⟩
  go_wp2_with fail
  obtain ⟨w0, hw0⟩ : ∃ w0, w0 = w.alloc (.cells #[.bool right, .slice Au nu cu, .slice Av nv cv] 30) := ⟨_, rfl⟩
  rw [← hw0]
  have b0 : Below w.heap.size w w0 := by rw [hw0]; exact (Below.refl _ _).alloc (Nat.le_refl _) _
  have s0 : w0.heap.size = w.heap.size + 1 := by rw [hw0]; simp
  have e0 : w0.cell? ⟨w.heap.size, 0, none⟩ = some (.bool right) := by rw [hw0]; simp
  have e2 : w0.cell? ⟨w.heap.size, 2, none⟩ = some (.slice Av nv cv) := by rw [hw0]; simp
  have e1 : w0.cell? ⟨w.heap.size, 1, none⟩ = some (.slice Au nu cu) := by rw [hw0]; simp
  have hlt0 : w.heap.size < w0.heap.size := by omega
  clear hw0
  refine (laid_any Ax Au Ay nx cx nu cu ny cy xs us ys right w0 (by exact (IX.out.below b0).more (by omega)) (by exact (IU.out.below b0).more (by omega)) (by exact (IY.out.below b0).more (by omega)) hnx hnu hny).mono ?_
  rintro e w1 ⟨A1, c1, rfl, h1, hb1⟩
  go_wp2_with fail
  refine (levels_any w1.heap.size A1 _ c1 _ 0 _ h1.ints (Nat.le_refl _) (by omega) (by omega) (by omega)).mono ?_
  rintro e w2 ⟨A2, c2, A3, c3, rfl, h2, h3, hb2⟩
  have t2 : Below w0.heap.size w0 w2 := hb1.trans (hb2.mono hb1.size)
  have f0 : w2.cell? ⟨w.heap.size, 0, none⟩ = some (.bool right) := by rw [t2.cell (by exact hlt0)]; exact e0
  have f1 : w2.cell? ⟨w.heap.size, 1, none⟩ = some (.slice Au nu cu) := by rw [t2.cell (by exact hlt0)]; exact e1
  have f2 : w2.cell? ⟨w.heap.size, 2, none⟩ = some (.slice Av nv cv) := by rw [t2.cell (by exact hlt0)]; exact e2
  have st2 := t2.size
  have H2 := Lib.hid h2
  have H3 := Lib.hid h3
  clear h1 h2 h3 e0 e1 e2
  go_wp2_with fail
  refine (laid_any Ax Av Ay nx cx nv cv ny cy xs vs ys right w2 (by exact ((IX.out.below b0).below (t2.mono (by omega))).more (by omega)) (by exact ((IV.out.below b0).below (t2.mono (by omega))).more (by omega)) (by exact ((IY.out.below b0).below (t2.mono (by omega))).more (by omega)) hnx hnv hny).mono ?_
  rintro e w3 ⟨A4, c4, rfl, h4, hb3⟩
  go_wp2_with fail
  refine (levels_any w3.heap.size A4 _ c4 _ 0 _ h4.ints (Nat.le_refl _) (by omega) (by omega) (by omega)).mono ?_
  rintro e w4 ⟨A6, c6, A7, c7, rfl, h6, h7, hb4⟩
  have t4 : Below w2.heap.size w2 w4 := hb3.trans (hb4.mono hb3.size)
  have g1 : w4.cell? ⟨w.heap.size, 1, none⟩ = some (.slice Au nu cu) := by rw [t4.cell (by show w.heap.size < w2.heap.size; omega)]; exact f1
  have g2 : w4.cell? ⟨w.heap.size, 2, none⟩ = some (.slice Av nv cv) := by rw [t4.cell (by show w.heap.size < w2.heap.size; omega)]; exact f2
  have h2 := (H2.out.below t4 (Nat.le_refl _)).ints
  have h3 := (H3.out.below t4 (Nat.le_refl _)).ints
  have h6i := h6.ints
  have h7i := h7.ints
  have hbb : Below w.heap.size w w4 := b0.trans ((t2.mono (by omega)).trans (t4.mono (by omega)))
  clear h4 h6 h7 H2 H3 f0 f1 f2
  obtain ⟨q1, hq1⟩ : ∃ q, q = nx + 1 + nu + 1 + ny := ⟨_, rfl⟩
  obtain ⟨q2, hq2⟩ : ∃ q, q = nx + 1 + nv + 1 + ny := ⟨_, rfl⟩
  rw [← hq1] at h2 h3 ⊢
  rw [← hq2] at h6i h7i ⊢
  have hlaw := fun n i k hn hi hk => Lv.laid_same xs right us vs ys n i k (by exact hn) (by exact hi) (by exact hk)
  obtain ⟨n, hn⟩ : ∃ n, n = nx + 1 := ⟨_, rfl⟩
  obtain ⟨i, hi⟩ : ∃ i, i = n + nu := ⟨_, rfl⟩
  obtain ⟨k, hk⟩ : ∃ k, k = n + nv := ⟨_, rfl⟩
  have hn' : (nx : Int) + 1 = (n : Int) := by omega
  have hi' : (n : Int) + (nu : Int) = (i : Int) := by omega
  have hk' : (n : Int) + (nv : Int) = (k : Int) := by omega
  replace hlaw := hlaw n i k (by rw [hn, IX.out.length]) (by rw [hi, IU.out.length]) (by rw [hk, IV.out.length])
  have z1 : ((q1 : Int) != (i : Int) + 1 + (ny : Int)) = false := by simp; omega
  have z2 : ((q1 : Int) != (q1 : Int)) = false := by simp
  have z3 : ((q2 : Int) != (k : Int) + 1 + (ny : Int)) = false := by simp; omega
  have z4 : ((q2 : Int) != (q2 : Int)) = false := by simp
  have y1 : n ≤ q1 := by omega
  have y2 : n ≤ q2 := by omega
  have y3 : i < q1 := by omega
  have y4 : k < q2 := by omega
  have y5 : q1 - i = q2 - k := by omega
  have hn9 : n ≤ 300 ∧ i ≤ 600 ∧ k ≤ 600 := by omega
  obtain ⟨b2, o2, _, rfl, _⟩ := h2.at_ (k := 0) (by omega)
  obtain ⟨b3, o3, _, rfl, _⟩ := h3.at_ (k := 0) (by omega)
  obtain ⟨b6, o6, _, rfl, _⟩ := h6i.at_ (k := 0) (by omega)
  obtain ⟨b7, o7, _, rfl, _⟩ := h7i.at_ (k := 0) (by omega)
  have p2 := h2.cap
  have p3 := h3.cap
  have p6 := h6i.cap
  have p7 := h7i.cap
  obtain ⟨l1, l2, l3, l4⟩ := hlaw
  have k1 := h2.cut (a := 0) (b := n) (by omega) (by omega) (by omega)
  have k2 := h6i.cut (a := 0) (b := n) (by omega) (by omega) (by omega)
  have k3 := h3.cut (a := 0) (b := n) (by omega) (by omega) (by omega)
  have k4 := h7i.cut (a := 0) (b := n) (by omega) (by omega) (by omega)
  have k5 := h2.cut (a := i) (b := q1) (by omega) (by omega) (by omega)
  have k6 := h6i.cut (a := k) (b := q2) (by omega) (by omega) (by omega)
  have k7 := h3.cut (a := i) (b := q1) (by omega) (by omega) (by omega)
  have k8 := h7i.cut (a := k) (b := q2) (by omega) (by omega) (by omega)
  simp only [Nat.add_zero, Nat.sub_zero, List.drop_zero] at k1 k2 k3 k4
  rw [← l1] at k2
  rw [← l2] at k4
  rw [← l3, ← y5] at k6
  rw [← l4, ← y5] at k8
  have C1 := Lib.hid (show ∀ m m2, Calls Try.prog 11 #[.slice (some ⟨b2, o2, none⟩) n c2, .slice (some ⟨b6, o6, none⟩) n c6] ((w4.drewN m).drewN m2) (Says true ((w4.drewN m).drewN m2)) from fun m m2 => by exact same_any _ _ _ _ _ _ _ _ _ ((k1.drewN m).drewN m2) ((k2.drewN m).drewN m2))
  have C2 := Lib.hid (show ∀ m m2, Calls Try.prog 11 #[.slice (some ⟨b3, o3, none⟩) n c3, .slice (some ⟨b7, o7, none⟩) n c7] ((w4.drewN m).drewN m2) (Says true ((w4.drewN m).drewN m2)) from fun m m2 => by exact same_any _ _ _ _ _ _ _ _ _ ((k3.drewN m).drewN m2) ((k4.drewN m).drewN m2))
  have C3 := Lib.hid (show ∀ m m2, Calls Try.prog 11 #[.slice (some ⟨b2, (o2 + i), none⟩) (q1 - i) (c2 - i), .slice (some ⟨b6, (o6 + k), none⟩) (q2 - k) (c6 - k)] ((w4.drewN m).drewN m2) (Says true ((w4.drewN m).drewN m2)) from fun m m2 => by rw [← y5]; exact same_any _ _ _ _ _ _ _ _ _ ((k5.drewN m).drewN m2) ((k6.drewN m).drewN m2))
  have C4 := Lib.hid (show ∀ m m2, Calls Try.prog 11 #[.slice (some ⟨b3, (o3 + i), none⟩) (q1 - i) (c3 - i), .slice (some ⟨b7, (o7 + k), none⟩) (q2 - k) (c7 - k)] ((w4.drewN m).drewN m2) (Says true ((w4.drewN m).drewN m2)) from fun m m2 => by rw [← y5]; exact same_any _ _ _ _ _ _ _ _ _ ((k7.drewN m).drewN m2) ((k8.drewN m).drewN m2))
  have HN := Lib.hid hn'
  have HI := Lib.hid hi'
  have HK := Lib.hid hk'
  clear y5 h2 h3 h6i h7i k1 k2 k3 k4 k5 k6 k7 k8 l1 l2 l3 l4
  clear hn hi hk hn' hi' hk' hq1 hq2
  clear IX IY IU IV HX HY HU HV
  have m1 : ¬ c2 = i := by omega
  have m2 : ¬ c3 = i := by omega
  have m3 : ¬ c6 = k := by omega
  have m4 : ¬ c7 = k := by omega
  have m5 : i ≤ q1 ∧ k ≤ q2 ∧ i ≤ c2 ∧ i ≤ c3 ∧ k ≤ c6 ∧ k ≤ c7 ∧ n ≤ c2 ∧ n ≤ c3 ∧ n ≤ c6 ∧ n ≤ c7 := by omega
  go_wp2_with fail
  rw [HN.out]
  go_quiet (fail)
  rw [HI.out, HK.out]
  go_wp2_with fail
  have hb9 := below_drewN hbb nq
  have D1 := C1.out nq
  have D2 := C2.out nq
  have D3 := C3.out nq
  have D4 := C4.out nq
  clear C1 C2 C3 C4 g1 g2
  generalize w4.drewN nq = w5 at hb9 D1 D2 D3 D4 ⊢
  go_quiet (first | (go_at_call_of 11 (Value.slice (some ⟨b2, o2, none⟩) n c2); exact Calls.quiet_of (D1 _)) | (go_at_call_of 11 (Value.slice (some ⟨b3, o3, none⟩) n c3); exact Calls.quiet_of (D2 _)) | (go_at_call_of 11 (Value.slice (some ⟨b2, (o2 + i), none⟩) (q1 - i) (c2 - i)); exact Calls.quiet_of (D3 _)) | (go_at_call_of 11 (Value.slice (some ⟨b3, (o3 + i), none⟩) (q1 - i) (c3 - i)); exact Calls.quiet_of (D4 _)))
  go_wp2
  go_ret
  exact ⟨rfl, below_drewN hb9 _⟩

end Go.Proofs.Ythcgdlcpgklhbaa
