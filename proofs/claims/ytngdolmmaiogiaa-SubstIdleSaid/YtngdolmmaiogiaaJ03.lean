/- Joined: SingA CovA. -/
import Derived.Test.YtngdolmmaiogiaaJ02
import Derived.Laws.Rows
import Derived.Laws.Tables

/- The walks of kind, Index, Clone, To. Condition: the lookup reads as its shape and is one that may be. Printed by wip/tools/g27m.py. -/
namespace Go.Proofs.Ytngdolmmaiogiaa
open Go.RowKit

/-- what slices.Index leaves -/
def sixV : Option Nat → Int
  | some k => (k : Int)
  | none => -1
set_option maxRecDepth 100000 in
set_option maxHeartbeats 4000000 in
theorem sindex_any (B : Nat) (A : Option Addr) (n c : Nat) (zs : List Int) (g : Int) (w : World) (h : Ints w B A n c zs) :
    Calls Try.prog 65 #[.slice A n c, .int .i64 g] w fun e w' => e = .returned (.int .i64 (sixV (ixI zs g))) ∧ Below w.heap.size w w' := by
  have hcap := h.cap
  have hl := h.length
  have HI := Lib.hid h
  have HL := Lib.hid hl
  clear h hl
  go_enter Try.func65, Try.ntmps65
  go_wp2_with fail
  go_loopw [8] (fun v wr => ∃ k : Nat, v = .int .i64 (k : Int) ∧ k ≤ n ∧ (∀ j, j < k → zs.getD j 0 ≠ g) ∧ Below w.heap.size w wr) (fun v _ => n - (intOf v).toNat)
  case atStart => exact ⟨0, rfl, Nat.zero_le _, fun j hj => by omega, Below.refl _ _⟩
  case round =>
    obtain ⟨k, rfl, hk, hall, hA⟩ := hrel
    have HALL := Lib.hid hall
    clear hall
    by_cases hlt : k < n
    · obtain ⟨b, o, rfl, hbb, hc⟩ := HI.out.getD hlt
      obtain ⟨x, hx⟩ : ∃ x, x = zs.getD k 0 := ⟨_, rfl⟩
      rw [← hx] at hc
      have c1 := up_fact hc
      have HX := Lib.hid hx
      clear hc hx
      by_cases hxy : g = x
      · have d1 : (g == x) = true := by simpa using hxy
        have HG := Lib.hid hxy
        clear hxy
        go_wp2_with fail
        go_ret
        exact ⟨by rw [ixI_some (by rw [HL.out]; exact hlt) (HX.out.symm.trans HG.out.symm) HALL.out]; rfl, hA⟩
      · have d1 : (g == x) = false := by simpa using hxy
        have HG := Lib.hid hxy
        clear hxy
        go_wp2_with fail
        go_roundw
        case rel => exact ⟨k + 1, by go_num, by omega, all_succ HALL.out (fun h => HG.out (h.symm.trans HX.out.symm)), hA⟩
        case measure => simp [intOf]; omega
    · have hz : decide ((k : Int) < (n : Int)) = false := by simp; omega
      have HK := Lib.hid (show n ≤ k by omega)
      go_wp2_with fail
      go_ret
      exact ⟨by rw [ixI_none (fun j hj => HALL.out j (by have h1 := HK.out; rw [HL.out] at hj; omega))]; rfl, hA⟩

/-- what cover.Index leaves -/
def ixV (o : Option Nat) : Ending := .returned (.tuple #[.int .i64 ((o.getD 0 : Nat) : Int), .bool o.isSome])
set_option maxHeartbeats 1000000 in
theorem index_any (B : Nat) (A : Option Addr) (n c : Nat) (zs : List Int) (g : Int) (w : World) (h : Ints w B A n c zs) :
    Calls Try.prog 64 #[.slice A n c, .int .i64 g] w fun e w' => e = ixV (ixI zs g) ∧ Below w.heap.size w w' := by
  have hi := sindex_any B A n c zs g w h
  have hlt := fun k => @ixI_lt zs g k
  rw [h.length] at hlt
  have hcap := h.cap
  clear h
  obtain ⟨o, ho⟩ : ∃ o, o = ixI zs g := ⟨_, rfl⟩
  rw [← ho] at hi hlt ⊢
  clear ho
  have HI := Lib.hid hi
  clear hi
  rcases o with _ | k
  · go_enter Try.func64, Try.ntmps64
    go_wp2_with (go_at_call 65; refine HI.out.mono ?_; rintro e w9 ⟨rfl, hb⟩; unfold sixV; have HB := Lib.hid hb; clear hb)
    go_ret2
    exact ⟨rfl, HB.out⟩
  · have hk := hlt k rfl
    clear hlt
    have hk0 : max (k : Int) 0 = (k : Int) := by omega
    have hk1 : decide ((0 : Int) ≤ (k : Int)) = true := by simp
    have hk2 : IntKind.i64.wrap (k : Int) = (k : Int) := by rw [IntKind.wrap_i64]; omega
    go_enter Try.func64, Try.ntmps64
    go_wp2_with (go_at_call 65; refine HI.out.mono ?_; rintro e w9 ⟨rfl, hb⟩; unfold sixV; have HB := Lib.hid hb; clear hb)
    go_ret2
    exact ⟨rfl, HB.out⟩

set_option maxRecDepth 100000 in
set_option maxHeartbeats 1000000 in
theorem clone_any (B : Nat) (A : Option Addr) (n c : Nat) (zs : List Int) (w : World) (h : Ints w B A n c zs) (hB : B ≤ w.heap.size) (hn : n ≤ 1000000) :
    Calls Try.prog 73 #[.slice A n c] w (RetInts w zs) := by
  have hl := h.length
  have HI := Lib.hid h
  have HL := Lib.hid hl
  by_cases hnil : A = none
  · subst hnil
    obtain ⟨rfl, rfl⟩ := h.2.2.2.1 rfl
    obtain rfl : zs = [] := List.eq_nil_of_length_eq_zero hl
    clear h hl
    have he : ∀ w : World, (binOp .eql 51 (.slice none 0 0) (.slice none 0 0)).run Try.prog w = .ok (.bool true) w := fun _ => rfl
    go_enter Try.func73, Try.ntmps73
    go_wp2_with fail
    go_ret
    exact ⟨none, 0, rfl, Ints.nil_ _ _, Below.refl _ _⟩
  · obtain ⟨a, rfl⟩ : ∃ a, A = some a := by cases A with | none => exact absurd rfl hnil | some a => exact ⟨a, rfl⟩
    clear h hl hnil
    have he : ∀ w : World, (binOp .eql 51 (.slice (some a) n c) (.slice none 0 0)).run Try.prog w = .ok (.bool false) w := fun _ => rfl
    go_enter Try.func73, Try.ntmps73
    go_wp2_with (first
      | (at_builtin; refine wpList_append_ints _ rfl (.tmp 5) (.tmp 6) 51 rfl w.heap.size 3 Try.underlying51 infoInt (some ⟨w.heap.size, 0, none⟩) 0 0 [] rfl (Own.lit w [] _ _ (Nat.le_refl _) (by unfold maxLen; omega) rfl rfl) B (some a) n c zs rfl (HI.out.below ((Below.refl _ _).alloc hB _)) (by omega) (by simp) ?_; intro A3 c3 w3 ho3 hg3 _))
    have hb3 : Below w.heap.size w w3 := below_append ((Below.refl _ _).alloc (Nat.le_refl _) _) (by simp) hg3 (Own.lit w [] _ _ (Nat.le_refl _) (by unfold maxLen; omega) rfl rfl) (Nat.le_refl _)
    go_ret
    have hi := ho3.ints
    rw [Nat.zero_add, List.nil_append, ← HL.out] at hi
    exact ⟨A3, c3, by rw [HL.out]; rfl, hi, hb3⟩

set_option maxRecDepth 100000 in
set_option maxHeartbeats 4000000 in
theorem kind_any (l : Lk) (w : World) :
    Calls Try.prog 72 #[.agg #[.int .i64 l.ki, .int .i64 l.fl, .int .i64 l.se, .slice l.su.A l.su.n l.su.c]] w (fun e w' => e = .returned (.bool (kiB l.ki)) ∧ Below w.heap.size w w') := by
  unfold kiB
  have hB : 0 ≤ w.heap.size := Nat.zero_le _
  obtain ⟨B, hBB⟩ : ∃ z : Nat, z = 0 := ⟨_, rfl⟩
  rw [← hBB] at hB
  obtain ⟨w1, hw1⟩ : ∃ z, z = w.alloc (.cells #[.int .i64 l.ki, .int .i64 l.fl, .int .i64 l.se, .slice l.su.A l.su.n l.su.c] 36) := ⟨_, rfl⟩
  have hb1 : Below w.heap.size w w1 := by rw [hw1]; exact (Below.refl _ _).alloc (Nat.le_refl _) _
  have hs1 : w.heap.size < w1.heap.size := by rw [hw1]; simp
  have hkb : KBox w1 w.heap.size l := by rw [hw1]; exact heap_alloc_new _ _
  obtain ⟨l0, l1, l2, l3⟩ := hkb.cells
  have h0 := up_fact l0
  have h1 := up_fact l1
  have h2 := up_fact l2
  have h3 := up_fact l3
  have hA0 := Below.refl w1.heap.size w1
  clear l0 l1 l2 l3 hkb
  have HW1 := Lib.hid hw1
  clear hw1
  have hBw : B ≤ w1.heap.size := by omega
  go_enter Try.func72, Try.ntmps72
  go_upto_region 1 with (fail)
  rw [← HW1.out]
  go_wp2_with fail
  all_goals
    go_ret
    exact ⟨by first | (simp [*]; done) | (simp_all; done) | (simp [*]; omega) | (simp; omega), hb1⟩

set_option maxRecDepth 100000 in
set_option maxHeartbeats 4000000 in
theorem sto_any (B : Nat) (l : Lk) (ps : List PS) (g : Int) (w : World) (h : SubsR w B l.su.A l.su.n l.su.c ps) (h1' : LkOne (l.ki, ps)) (hB : B ≤ w.heap.size) :
    Calls Try.prog 59 #[.agg #[.int .i64 l.ki, .int .i64 l.fl, .int .i64 l.se, .slice l.su.A l.su.n l.su.c], .int .i64 g] w (RetTo w (toB (l.ki, ps) g)) := by
  have hcap := h.cap
  have hpl := h.1
  obtain ⟨w1, hw1⟩ : ∃ z, z = w.alloc (.cells #[.int .i64 l.ki, .int .i64 l.fl, .int .i64 l.se, .slice l.su.A l.su.n l.su.c] 36) := ⟨_, rfl⟩
  have hb1 : Below w.heap.size w w1 := by rw [hw1]; exact (Below.refl _ _).alloc (Nat.le_refl _) _
  have hs1 : w.heap.size < w1.heap.size := by rw [hw1]; simp
  have hkb : KBox w1 w.heap.size l := by rw [hw1]; exact heap_alloc_new _ _
  obtain ⟨l0, l1, l2, l3⟩ := hkb.cells
  have h0 := up_fact l0
  have h1 := up_fact l1
  have h2 := up_fact l2
  have h3 := up_fact l3
  have hA0 := Below.refl w1.heap.size w1
  clear l0 l1 l2 l3 hkb
  have HW1 := Lib.hid hw1
  clear hw1
  have hBw : B ≤ w1.heap.size := by omega
  have HS := Lib.hid (h.below (hb1.mono hB))
  have HONE := Lib.hid h1'
  have HPL := Lib.hid hpl
  clear h hpl h1'
  obtain ⟨t, ht⟩ : ∃ t, t = kiB l.ki := ⟨_, rfl⟩
  have HK := Lib.hid (show ∀ W, Calls Try.prog 72 #[.agg #[.int .i64 l.ki, .int .i64 l.fl, .int .i64 l.se, .slice l.su.A l.su.n l.su.c]] W fun e w' => e = .returned (.bool t) ∧ Below W.heap.size W w' from fun W => by rw [ht]; exact kind_any l W)
  have HT := Lib.hid ht
  clear ht
  go_enter Try.func59, Try.ntmps59
  go_upto_region 1 with (fail)
  rw [← HW1.out]
  rcases t with _ | _
  · go_wp2_with (go_at_call 72; refine (HK.out _).mono ?_; rintro e w9 ⟨rfl, hb⟩; have hA0 := bgo hA0 hb; clear hb)
    go_ret2
    exact RetTo.none_ (toB_off HT.out.symm) (hb1.trans (hA0.mono (by omega)))
  go_wp2_with (go_at_call 72; refine (HK.out _).mono ?_; rintro e w9 ⟨rfl, hb⟩; have hA0 := bgo hA0 hb; clear hb)
  go_loopw [16] (fun v wr => ∃ k : Nat, v = .int .i64 (k : Int) ∧ k ≤ l.su.n ∧ (∀ j, j < k → ixI (ps.getD j nS).1 g = none) ∧ Below w1.heap.size w1 wr) (fun v _ => l.su.n - (intOf v).toNat)
  case atStart => exact ⟨0, rfl, Nat.zero_le _, fun j hj => by omega, hA0⟩
  case round =>
    obtain ⟨k, rfl, hk, hall, hA⟩ := hrel
    have HALL := Lib.hid hall
    clear hall
    by_cases hlt : k < l.su.n
    · obtain ⟨b, o, s, eS, hbb, ⟨c0, c1, c2, c3, c4, c5, c6, c7, c8, c9, c10, c11⟩, _, hco, hto⟩ := HS.out.2.2.2 k hlt
      obtain ⟨p, hp⟩ : ∃ p, p = ps.getD k nS := ⟨_, rfl⟩
      rw [← hp] at hco hto
      have hone := HONE.out.len HT.out.symm (j := k) (by show k < ps.length; rw [HPL.out]; exact hlt)
      rw [show (l.ki, ps).2.getD k nS = p from hp.symm] at hone
      have hcapt := hto.cap
      have hcapc := hco.cap
      have hlen : s.co.n = s.tt.n := by rw [← hco.length, ← hto.1]; exact hone.1
      have HLEN := Lib.hid hlen
      clear hlen
      have HP := Lib.hid hp
      have HONEP := Lib.hid hone
      have HTO := Lib.hid hto
      rw [eS] at h3 ⊢
      have y0 := up_fact c0
      have y1 := up_fact c1
      have y2 := up_fact c2
      have y3 := up_fact c3
      have y4 := up_fact c4
      have y5 := up_fact c5
      have y6 := up_fact c6
      have y7 := up_fact c7
      have y8 := up_fact c8
      have y9 := up_fact c9
      have y10 := up_fact c10
      have y11 := up_fact c11
      obtain ⟨o1, ho1⟩ : ∃ o, o = ixI p.1 g := ⟨_, rfl⟩
      have hlt1 := fun k => @ixI_lt p.1 g k
      rw [hco.length, ← ho1] at hlt1
      have HIX := Lib.hid (fun W (hW : Below w1.heap.size w1 W) => index_any B s.co.A s.co.n s.co.c p.1 g W (hco.below (hW.mono (by omega))))
      rw [← ho1] at HIX
      have HO := Lib.hid ho1
      have HLT := Lib.hid hlt1
      clear ho1 hlt1 c0 c1 c2 c3 c4 c5 c6 c7 c8 c9 c10 c11 hp hone hco hto
      go_upto_region 6 with (fail)
      obtain ⟨w3, hw3⟩ : ∃ z, z = wr.alloc (.cells #[.slice s.co.A s.co.n s.co.c, .slice s.tt.A s.tt.n s.tt.c, .slice s.li.A s.li.n s.li.c, .slice s.ba.A s.ba.n s.ba.c, .slice s.inn.A s.inn.n s.inn.c, .slice s.ah.A s.ah.n s.ah.c, .slice s.ne.A s.ne.n s.ne.c, .slice s.va.A s.va.n s.va.c, .slice s.pr.A s.pr.n s.pr.c, .slice s.cu.A s.cu.n s.cu.c, .slice s.ma.A s.ma.n s.ma.c, .slice s.ho.A s.ho.n s.ho.c] 60) := ⟨_, rfl⟩
      obtain ⟨bx, hbx⟩ : ∃ z, z = wr.heap.size := ⟨_, rfl⟩
      rw [← hw3, ← hbx]
      have hA3 := (show Below w1.heap.size w1 w3 by rw [hw3]; exact hA.alloc hA.size _)
      have hX : w3.heap[bx]? = some (.cells #[.slice s.co.A s.co.n s.co.c, .slice s.tt.A s.tt.n s.tt.c, .slice s.li.A s.li.n s.li.c, .slice s.ba.A s.ba.n s.ba.c, .slice s.inn.A s.inn.n s.inn.c, .slice s.ah.A s.ah.n s.ah.c, .slice s.ne.A s.ne.n s.ne.c, .slice s.va.A s.va.n s.va.c, .slice s.pr.A s.pr.n s.pr.c, .slice s.cu.A s.cu.n s.cu.c, .slice s.ma.A s.ma.n s.ma.c, .slice s.ho.A s.ho.n s.ho.c] 60 (0, 0)) := by rw [hw3, hbx]; exact heap_alloc_new _ _
      have xf0 := up_fact (show w3.cell? ⟨bx, 0, none⟩ = some (.slice s.co.A s.co.n s.co.c) by rw [cell_of_row _ _ 0 _ _ _ hX]; rfl)
      have xf1 := up_fact (show w3.cell? ⟨bx, 1, none⟩ = some (.slice s.tt.A s.tt.n s.tt.c) by rw [cell_of_row _ _ 1 _ _ _ hX]; rfl)
      have xf2 := up_fact (show w3.cell? ⟨bx, 2, none⟩ = some (.slice s.li.A s.li.n s.li.c) by rw [cell_of_row _ _ 2 _ _ _ hX]; rfl)
      have xf3 := up_fact (show w3.cell? ⟨bx, 3, none⟩ = some (.slice s.ba.A s.ba.n s.ba.c) by rw [cell_of_row _ _ 3 _ _ _ hX]; rfl)
      have xf4 := up_fact (show w3.cell? ⟨bx, 4, none⟩ = some (.slice s.inn.A s.inn.n s.inn.c) by rw [cell_of_row _ _ 4 _ _ _ hX]; rfl)
      have xf5 := up_fact (show w3.cell? ⟨bx, 5, none⟩ = some (.slice s.ah.A s.ah.n s.ah.c) by rw [cell_of_row _ _ 5 _ _ _ hX]; rfl)
      have xf6 := up_fact (show w3.cell? ⟨bx, 6, none⟩ = some (.slice s.ne.A s.ne.n s.ne.c) by rw [cell_of_row _ _ 6 _ _ _ hX]; rfl)
      have xf7 := up_fact (show w3.cell? ⟨bx, 7, none⟩ = some (.slice s.va.A s.va.n s.va.c) by rw [cell_of_row _ _ 7 _ _ _ hX]; rfl)
      have xf8 := up_fact (show w3.cell? ⟨bx, 8, none⟩ = some (.slice s.pr.A s.pr.n s.pr.c) by rw [cell_of_row _ _ 8 _ _ _ hX]; rfl)
      have xf9 := up_fact (show w3.cell? ⟨bx, 9, none⟩ = some (.slice s.cu.A s.cu.n s.cu.c) by rw [cell_of_row _ _ 9 _ _ _ hX]; rfl)
      have xf10 := up_fact (show w3.cell? ⟨bx, 10, none⟩ = some (.slice s.ma.A s.ma.n s.ma.c) by rw [cell_of_row _ _ 10 _ _ _ hX]; rfl)
      have xf11 := up_fact (show w3.cell? ⟨bx, 11, none⟩ = some (.slice s.ho.A s.ho.n s.ho.c) by rw [cell_of_row _ _ 11 _ _ _ hX]; rfl)
      have hC := Below.refl w3.heap.size w3
      clear hX hw3 hbx
      rcases o1 with _ | i
      · go_wp2_with (go_at_call 64; refine (HIX.out _ hA3).mono ?_; rintro e w9 ⟨rfl, hb⟩; unfold ixV; have hA3 := bgo hA3 hb; have hC := bgo hC hb; clear hb)
        go_roundw
        case rel => exact ⟨k + 1, by go_num, by omega, all_succ HALL.out (by rw [← HP.out]; exact HO.out.symm), hA3⟩
        case measure => simp [intOf]; omega
      · have hi := HLT.out i rfl
        have hi2 : i < s.tt.n := by have := HLEN.out; omega
        obtain ⟨b', o', A', n', c', eT, _, d0, hin⟩ := HTO.out.2.2.2 i hi2
        rw [eT] at xf1
        have z0 := up_fact d0
        have hn16 : n' ≤ 16 := by rw [← hin.length]; exact HONEP.out.2.2 i (by rw [HTO.out.1]; exact hi2)
        obtain ⟨zs, hzs⟩ : ∃ z, z = p.2.getD i [] := ⟨_, rfl⟩
        rw [← hzs] at hin
        have HZ := Lib.hid hzs
        have HIN := Lib.hid hin
        have d1 : decide ((s.tt.n : Int) ≤ (i : Int)) = false := by simp; omega
        clear d0 hin hzs
        go_wp2_with (first
          | (go_at_call 64; refine (HIX.out _ hA3).mono ?_; rintro e w9 ⟨rfl, hb⟩; unfold ixV; have hA3 := bgo hA3 hb; have hC := bgo hC hb; clear hb)
          | (go_at_call 73; refine (clone_any B A' n' c' zs _ (HIN.out.below (hA3.mono (by omega))) (by have := hA3.size; omega) (by omega)).mono ?_; rintro e w9 ⟨A9, c9, rfl, hI, hb⟩; have hA3 := bgo hA3 hb; have HI9 := Lib.hid hI; clear hb hI))
        go_ret2
        exact RetTo.some_ (by rw [toB_on HT.out.symm, goB_some (ps := ps) (k := k) (i := i) (by rw [HPL.out]; exact hlt) (by rw [← HP.out]; exact HO.out.symm) HALL.out, ← HP.out, HZ.out]) rfl HI9.out (hb1.trans (hA3.mono (by omega)))
    · have hz : decide ((k : Int) < (l.su.n : Int)) = false := by simp; omega
      have HKN := Lib.hid (show l.su.n ≤ k by omega)
      go_wp2_with fail
      go_ret2
      exact RetTo.none_ (by rw [toB_on HT.out.symm]; exact goB_none (fun j hj => HALL.out j (by have h1 := HKN.out; have h2 : j < ps.length := hj; rw [HPL.out] at h2; omega))) (hb1.trans (hA.mono (by omega)))

end Go.Proofs.Ytngdolmmaiogiaa

/- The walks of cover.info, Kind, Attach and slices.Contains. Condition: what they read reads as plain data. Printed by wip/tools. -/
namespace Go.Proofs.Ytngdolmmaiogiaa
open Go.RowKit

theorem sizeInfo : (Try.prog.info? 77).map (·.size) = some 4 := by kernel_rfl
theorem oneInfo (x y z : Int) (A : Option Addr) (n c : Nat) : (#[.int .i64 x, .int .i64 y, .int .i64 z, .slice A n c] : Array Value).all (·.oneCell') = true := by simp [Value.oneCell']
theorem field_info1 (x y z : Int) (A : Option Addr) (n c : Nat) (w : World) : Sem.run Try.prog (Instr.field 77 (.agg #[.int .i64 x, .int .i64 y, .int .i64 z, .slice A n c]) 1) w = .ok (.int .i64 y) w := by kernel_rfl
theorem field_info2 (x y z : Int) (A : Option Addr) (n c : Nat) (w : World) : Sem.run Try.prog (Instr.field 77 (.agg #[.int .i64 x, .int .i64 y, .int .i64 z, .slice A n c]) 2) w = .ok (.int .i64 z) w := by kernel_rfl
theorem below_setRow {B g : Nat} {a w : World} (h : Below B a w) (hg : B ≤ g) (cs : Array Value) : Below B a (w.setRow g cs) :=
  ⟨h.os, h.tape, h.output, by rw [setRow_size]; exact h.size, fun k hk => (setRow_other w g k cs (by omega)).trans (h.block k hk)⟩
/-- what a font tells of a glyph: kind and attach -/
def infB (gi : List (Int × Int)) (g : Int) : Int × Int := if 0 ≤ g then gi.getD g.toNat (0, 0) else (0, 0)
def RetInf (w : World) (p : Int × Int) (e : Ending) (w' : World) : Prop := ∃ ad A n c, e = .returned (.agg #[.int .i64 ad, .int .i64 p.1, .int .i64 p.2, .slice A n c]) ∧ Below w.heap.size w w'
set_option maxRecDepth 100000 in
set_option maxHeartbeats 4000000 in
theorem info_any (F : Fnt) (B : Nat) (gi : List (Int × Int)) (g : Int) (w : World) (h : SlR w B 4 (InfR w B) F.GA F.gn F.gc gi) (hB : B ≤ w.heap.size) :
    Calls Try.prog 57 #[.agg #[.int .i64 F.em, .slice F.GA F.gn F.gc, .slice F.MA F.mn F.mc, .slice F.LA F.ln F.lc, .slice F.FA F.fn F.fc, .slice F.SA F.sn F.sc], .int .i64 g] w (RetInf w (infB gi g)) := by
  have hcap := h.cap
  have hlen := h.length
  have HI := Lib.hid h
  clear h
  obtain ⟨wb1, hw_wb1⟩ : ∃ z, z = w.alloc (.cells #[.int .i64 F.em, .slice F.GA F.gn F.gc, .slice F.MA F.mn F.mc, .slice F.LA F.ln F.lc, .slice F.FA F.fn F.fc, .slice F.SA F.sn F.sc] 28) := ⟨_, rfl⟩
  have hs_wb1 : wb1.heap.size = w.heap.size + 1 := by rw [hw_wb1]; simp
  have hb_wb1 : Below w.heap.size w wb1 := by rw [hw_wb1]; exact (Below.refl _ _).alloc (Nat.le_refl _) _
  have hx_0 : wb1.heap[w.heap.size]? = some (.cells #[.int .i64 F.em, .slice F.GA F.gn F.gc, .slice F.MA F.mn F.mc, .slice F.LA F.ln F.lc, .slice F.FA F.fn F.fc, .slice F.SA F.sn F.sc] 28 (0, 0)) := by rw [hw_wb1]; exact heap_alloc_new _ _
  obtain ⟨w1, hw_w1⟩ : ∃ z, z = wb1.alloc (.cells #[.int .i64 0, .int .i64 0, .int .i64 0, .slice none 0 0] 77) := ⟨_, rfl⟩
  have hs_w1 : w1.heap.size = w.heap.size + 2 := by rw [hw_w1]; simp <;> omega
  have hb_w1 : Below w.heap.size w w1 := by rw [hw_w1]; exact hb_wb1.alloc (by omega) _
  have hx_1 : w1.heap[w.heap.size + 1]? = some (.cells #[.int .i64 0, .int .i64 0, .int .i64 0, .slice none 0 0] 77 (0, 0)) := by rw [hw_w1]; exact (hs_wb1 ▸ heap_alloc_new wb1 _)
  have hx_0 : w1.heap[w.heap.size]? = some (.cells #[.int .i64 F.em, .slice F.GA F.gn F.gc, .slice F.MA F.mn F.mc, .slice F.LA F.ln F.lc, .slice F.FA F.fn F.fc, .slice F.SA F.sn F.sc] 28 (0, 0)) := by rw [hw_w1]; exact (heap_alloc_old _ _ (by omega)).trans hx_0
  have g0 := up_fact (show w1.cell? ⟨w.heap.size, 0, none⟩ = some (.int .i64 F.em) by rw [cell_of_row _ _ 0 _ _ _ hx_0]; rfl)
  have g1 := up_fact (show w1.cell? ⟨w.heap.size, 1, none⟩ = some (.slice F.GA F.gn F.gc) by rw [cell_of_row _ _ 1 _ _ _ hx_0]; rfl)
  have g2 := up_fact (show w1.cell? ⟨w.heap.size, 2, none⟩ = some (.slice F.MA F.mn F.mc) by rw [cell_of_row _ _ 2 _ _ _ hx_0]; rfl)
  have g3 := up_fact (show w1.cell? ⟨w.heap.size, 3, none⟩ = some (.slice F.LA F.ln F.lc) by rw [cell_of_row _ _ 3 _ _ _ hx_0]; rfl)
  have g4 := up_fact (show w1.cell? ⟨w.heap.size, 4, none⟩ = some (.slice F.FA F.fn F.fc) by rw [cell_of_row _ _ 4 _ _ _ hx_0]; rfl)
  have g5 := up_fact (show w1.cell? ⟨w.heap.size, 5, none⟩ = some (.slice F.SA F.sn F.sc) by rw [cell_of_row _ _ 5 _ _ _ hx_0]; rfl)
  have hA0 := Below.refl w1.heap.size w1
  have HS1 := Lib.hid hs_w1
  have hs1 : w.heap.size + 1 < w1.heap.size := by omega
  have HB1 := Lib.hid hb_w1
  have HW_wb1 := Lib.hid hw_wb1
  have HW_w1 := Lib.hid hw_w1
  clear hw_wb1 hs_wb1 hb_wb1 hw_w1 hs_w1 hb_w1
  have HX1 := Lib.hid hx_1
  clear hx_0 hx_1
  by_cases h0 : 0 ≤ g
  · obtain ⟨k, rfl⟩ : ∃ k : Nat, g = (k : Int) := ⟨g.toNat, by omega⟩
    by_cases hk : k < F.gn
    · obtain ⟨p, b, o, cs, hp, hA, hbb, hc, ad, A', n', c', rfl, hin⟩ := SlR.at_ (HI.out.below (HB1.out.mono hB) fun _ _ h => h.below (HB1.out.mono hB)) hk
      have c0 := up_fact (show w1.cell? ⟨b, o + k * 4, none⟩ = _ from hc 0 _ rfl)
      have c1 := up_fact (hc 1 _ rfl)
      have c2 := up_fact (hc 2 _ rfl)
      have c3 := up_fact (hc 3 _ rfl)
      have z0 : decide ((k : Int) < 0) = false := by simp
      have z1 : decide ((F.gn : Int) ≤ (k : Int)) = false := by simp; omega
      have z2 : decide (F.gn ≤ k) = false := by simp; omega
      have HINF := Lib.hid (show infB gi (k : Int) = p by unfold infB; rw [if_pos (by omega), Int.toNat_natCast, List.getD_eq_getElem?_getD, hp]; rfl)
      have HA := Lib.hid hA
      clear hA hc hp hin
      go_enter Try.func57, Try.ntmps57
      go_upto_region 1 with (fail)
      rw [← HW_wb1.out]
      rw [← HW_w1.out]
      rw [HA.out] at g1 ⊢
      go_wp2_with (first
          | (refine wpList_store_row rfl 77 _ _ rfl (w.heap.size + 1) #[.int .i64 ad, .int .i64 p.1, .int .i64 p.2, .slice A' n' c'] rfl rfl 77 _ HX1.out sizeInfo rfl (oneInfo _ _ _ _ _ _) ?_)
          | fail)
      (try simp only [Exit.inBlock, Exit.then])
      refine bodyPost_ret (results_cell_row rfl _ _ (w.heap.size + 1) 77 #[.int .i64 ad, .int .i64 p.1, .int .i64 p.2, .slice A' n' c'] (0, 0) _ rfl (setRow_heap _ _ _ _ _ _ HX1.out) Try.underlying77 rfl sizeInfo) rfl ?_
      refine ⟨ad, A', n', c', ?_, below_setRow (HB1.out) (Nat.le_succ _) _⟩
      rw [HINF.out]
    · have z0 : decide ((k : Int) < 0) = false := by simp
      have z1 : decide ((F.gn : Int) ≤ (k : Int)) = true := by simp; omega
      have z2 : decide (F.gn ≤ k) = true := by simp; omega
      have HINF := Lib.hid (show infB gi (k : Int) = (0, 0) by unfold infB; rw [if_pos (by omega), Int.toNat_natCast, List.getD_eq_getElem?_getD, List.getElem?_eq_none (by omega)]; rfl)
      go_enter Try.func57, Try.ntmps57
      go_upto_region 1 with (fail)
      rw [← HW_wb1.out]
      rw [← HW_w1.out]
      go_wp2_with (first
          | (refine wpList_store_row rfl 77 _ _ rfl (w.heap.size + 1) #[.int .i64 0, .int .i64 0, .int .i64 0, .slice none 0 0] rfl rfl 77 _ HX1.out sizeInfo rfl (oneInfo _ _ _ _ _ _) ?_)
          | fail)
      (try simp only [Exit.inBlock, Exit.then])
      refine bodyPost_ret (results_cell_row rfl _ _ (w.heap.size + 1) 77 #[.int .i64 0, .int .i64 0, .int .i64 0, .slice none 0 0] (0, 0) _ rfl (setRow_heap _ _ _ _ _ _ HX1.out) Try.underlying77 rfl sizeInfo) rfl ?_
      refine ⟨0, none, 0, 0, ?_, below_setRow (HB1.out) (Nat.le_succ _) _⟩
      rw [HINF.out]
  · have z0 : decide (g < 0) = true := by simp; omega
    have HINF := Lib.hid (show infB gi g = (0, 0) by unfold infB; rw [if_neg h0])
    go_enter Try.func57, Try.ntmps57
    go_upto_region 1 with (fail)
    rw [← HW_wb1.out]
    rw [← HW_w1.out]
    go_wp2_with (first
        | (refine wpList_store_row rfl 77 _ _ rfl (w.heap.size + 1) #[.int .i64 0, .int .i64 0, .int .i64 0, .slice none 0 0] rfl rfl 77 _ HX1.out sizeInfo rfl (oneInfo _ _ _ _ _ _) ?_)
        | fail)
    (try simp only [Exit.inBlock, Exit.then])
    refine bodyPost_ret (results_cell_row rfl _ _ (w.heap.size + 1) 77 #[.int .i64 0, .int .i64 0, .int .i64 0, .slice none 0 0] (0, 0) _ rfl (setRow_heap _ _ _ _ _ _ HX1.out) Try.underlying77 rfl sizeInfo) rfl ?_
    refine ⟨0, none, 0, 0, ?_, below_setRow (HB1.out) (Nat.le_succ _) _⟩
    rw [HINF.out]

set_option maxRecDepth 100000 in
set_option maxHeartbeats 4000000 in
theorem gkind_any (F : Fnt) (B : Nat) (gi : List (Int × Int)) (g : Int) (w : World) (h : SlR w B 4 (InfR w B) F.GA F.gn F.gc gi) (hB : B ≤ w.heap.size) :
    Calls Try.prog 48 #[.agg #[.int .i64 F.em, .slice F.GA F.gn F.gc, .slice F.MA F.mn F.mc, .slice F.LA F.ln F.lc, .slice F.FA F.fn F.fc, .slice F.SA F.sn F.sc], .int .i64 g] w (fun e w' => e = .returned (.int .i64 (infB gi g).1) ∧ Below w.heap.size w w') := by
  have HI := Lib.hid h
  clear h
  obtain ⟨w1, hw_w1⟩ : ∃ z, z = w.alloc (.cells #[.int .i64 F.em, .slice F.GA F.gn F.gc, .slice F.MA F.mn F.mc, .slice F.LA F.ln F.lc, .slice F.FA F.fn F.fc, .slice F.SA F.sn F.sc] 28) := ⟨_, rfl⟩
  have hs_w1 : w1.heap.size = w.heap.size + 1 := by rw [hw_w1]; simp
  have hb_w1 : Below w.heap.size w w1 := by rw [hw_w1]; exact (Below.refl _ _).alloc (Nat.le_refl _) _
  have hx_0 : w1.heap[w.heap.size]? = some (.cells #[.int .i64 F.em, .slice F.GA F.gn F.gc, .slice F.MA F.mn F.mc, .slice F.LA F.ln F.lc, .slice F.FA F.fn F.fc, .slice F.SA F.sn F.sc] 28 (0, 0)) := by rw [hw_w1]; exact heap_alloc_new _ _
  have g0 := up_fact (show w1.cell? ⟨w.heap.size, 0, none⟩ = some (.int .i64 F.em) by rw [cell_of_row _ _ 0 _ _ _ hx_0]; rfl)
  have g1 := up_fact (show w1.cell? ⟨w.heap.size, 1, none⟩ = some (.slice F.GA F.gn F.gc) by rw [cell_of_row _ _ 1 _ _ _ hx_0]; rfl)
  have g2 := up_fact (show w1.cell? ⟨w.heap.size, 2, none⟩ = some (.slice F.MA F.mn F.mc) by rw [cell_of_row _ _ 2 _ _ _ hx_0]; rfl)
  have g3 := up_fact (show w1.cell? ⟨w.heap.size, 3, none⟩ = some (.slice F.LA F.ln F.lc) by rw [cell_of_row _ _ 3 _ _ _ hx_0]; rfl)
  have g4 := up_fact (show w1.cell? ⟨w.heap.size, 4, none⟩ = some (.slice F.FA F.fn F.fc) by rw [cell_of_row _ _ 4 _ _ _ hx_0]; rfl)
  have g5 := up_fact (show w1.cell? ⟨w.heap.size, 5, none⟩ = some (.slice F.SA F.sn F.sc) by rw [cell_of_row _ _ 5 _ _ _ hx_0]; rfl)
  have hA0 := Below.refl w1.heap.size w1
  have HS1 := Lib.hid hs_w1
  have hs1 : w.heap.size + 0 < w1.heap.size := by omega
  have HB1 := Lib.hid hb_w1
  have HW_w1 := Lib.hid hw_w1
  clear hw_w1 hs_w1 hb_w1
  clear hx_0
  have HB := Lib.hid hB
  have hfd := field_info1
  go_enter Try.func48, Try.ntmps48
  go_upto_region 1 with (fail)
  rw [← HW_w1.out]
  go_wp2_with (go_at_call 57; refine (info_any F B gi g _ (HI.out.below (HB1.out.mono HB.out) fun _ _ h => h.below (HB1.out.mono HB.out)) (by have := HB.out; omega)).mono ?_; rintro e w9 ⟨ad, A9, n9, c9, rfl, hb⟩; have hA0 := bgo hA0 hb; clear hb)
  go_ret
  exact ⟨rfl, HB1.out.trans (hA0.mono (by omega))⟩

set_option maxRecDepth 100000 in
set_option maxHeartbeats 4000000 in
theorem attach_any (F : Fnt) (B : Nat) (gi : List (Int × Int)) (g : Int) (w : World) (h : SlR w B 4 (InfR w B) F.GA F.gn F.gc gi) (hB : B ≤ w.heap.size) :
    Calls Try.prog 58 #[.agg #[.int .i64 F.em, .slice F.GA F.gn F.gc, .slice F.MA F.mn F.mc, .slice F.LA F.ln F.lc, .slice F.FA F.fn F.fc, .slice F.SA F.sn F.sc], .int .i64 g] w (fun e w' => e = .returned (.int .i64 (infB gi g).2) ∧ Below w.heap.size w w') := by
  have HI := Lib.hid h
  clear h
  obtain ⟨w1, hw_w1⟩ : ∃ z, z = w.alloc (.cells #[.int .i64 F.em, .slice F.GA F.gn F.gc, .slice F.MA F.mn F.mc, .slice F.LA F.ln F.lc, .slice F.FA F.fn F.fc, .slice F.SA F.sn F.sc] 28) := ⟨_, rfl⟩
  have hs_w1 : w1.heap.size = w.heap.size + 1 := by rw [hw_w1]; simp
  have hb_w1 : Below w.heap.size w w1 := by rw [hw_w1]; exact (Below.refl _ _).alloc (Nat.le_refl _) _
  have hx_0 : w1.heap[w.heap.size]? = some (.cells #[.int .i64 F.em, .slice F.GA F.gn F.gc, .slice F.MA F.mn F.mc, .slice F.LA F.ln F.lc, .slice F.FA F.fn F.fc, .slice F.SA F.sn F.sc] 28 (0, 0)) := by rw [hw_w1]; exact heap_alloc_new _ _
  have g0 := up_fact (show w1.cell? ⟨w.heap.size, 0, none⟩ = some (.int .i64 F.em) by rw [cell_of_row _ _ 0 _ _ _ hx_0]; rfl)
  have g1 := up_fact (show w1.cell? ⟨w.heap.size, 1, none⟩ = some (.slice F.GA F.gn F.gc) by rw [cell_of_row _ _ 1 _ _ _ hx_0]; rfl)
  have g2 := up_fact (show w1.cell? ⟨w.heap.size, 2, none⟩ = some (.slice F.MA F.mn F.mc) by rw [cell_of_row _ _ 2 _ _ _ hx_0]; rfl)
  have g3 := up_fact (show w1.cell? ⟨w.heap.size, 3, none⟩ = some (.slice F.LA F.ln F.lc) by rw [cell_of_row _ _ 3 _ _ _ hx_0]; rfl)
  have g4 := up_fact (show w1.cell? ⟨w.heap.size, 4, none⟩ = some (.slice F.FA F.fn F.fc) by rw [cell_of_row _ _ 4 _ _ _ hx_0]; rfl)
  have g5 := up_fact (show w1.cell? ⟨w.heap.size, 5, none⟩ = some (.slice F.SA F.sn F.sc) by rw [cell_of_row _ _ 5 _ _ _ hx_0]; rfl)
  have hA0 := Below.refl w1.heap.size w1
  have HS1 := Lib.hid hs_w1
  have hs1 : w.heap.size + 0 < w1.heap.size := by omega
  have HB1 := Lib.hid hb_w1
  have HW_w1 := Lib.hid hw_w1
  clear hw_w1 hs_w1 hb_w1
  clear hx_0
  have HB := Lib.hid hB
  have hfd := field_info2
  go_enter Try.func58, Try.ntmps58
  go_upto_region 1 with (fail)
  rw [← HW_w1.out]
  go_wp2_with (go_at_call 57; refine (info_any F B gi g _ (HI.out.below (HB1.out.mono HB.out) fun _ _ h => h.below (HB1.out.mono HB.out)) (by have := HB.out; omega)).mono ?_; rintro e w9 ⟨ad, A9, n9, c9, rfl, hb⟩; have hA0 := bgo hA0 hb; clear hb)
  go_ret
  exact ⟨rfl, HB1.out.trans (hA0.mono (by omega))⟩

def hasB (zs : List Int) (g : Int) : Bool := (ixI zs g).isSome
set_option maxRecDepth 100000 in
set_option maxHeartbeats 4000000 in
theorem contains_any (B : Nat) (A : Option Addr) (n c : Nat) (zs : List Int) (g : Int) (w : World) (h : Ints w B A n c zs) (hB : B ≤ w.heap.size) :
    Calls Try.prog 53 #[.slice A n c, .int .i64 g] w (fun e w' => e = .returned (.bool (hasB zs g)) ∧ Below w.heap.size w w') := by
  have HI := Lib.hid h
  clear h
  have hA0 := Below.refl w.heap.size w
  obtain ⟨r, hr⟩ : ∃ r, r = ixI zs g := ⟨_, rfl⟩
  have HC := Lib.hid (show ∀ W, Below w.heap.size w W → Calls Try.prog 65 #[.slice A n c, .int .i64 g] W fun e w' => e = .returned (.int .i64 (sixV r)) ∧ Below W.heap.size W w' from fun W hW => by rw [hr]; exact sindex_any B A n c zs g W (HI.out.below (hW.mono hB)))
  unfold hasB
  rw [← hr]
  clear hr
  rcases r with _ | j
  · go_enter Try.func53, Try.ntmps53
    go_wp2_with (go_at_call 65; refine (HC.out _ hA0).mono ?_; rintro e w9 ⟨rfl, hb⟩; unfold sixV; have hA0 := bgo hA0 hb; clear hb)
    go_ret
    exact ⟨rfl, hA0⟩
  · go_enter Try.func53, Try.ntmps53
    go_wp2_with (go_at_call 65; refine (HC.out _ hA0).mono ?_; rintro e w9 ⟨rfl, hb⟩; unfold sixV; have hA0 := bgo hA0 hb; clear hb)
    go_ret
    exact ⟨rfl, hA0⟩

end Go.Proofs.Ytngdolmmaiogiaa
