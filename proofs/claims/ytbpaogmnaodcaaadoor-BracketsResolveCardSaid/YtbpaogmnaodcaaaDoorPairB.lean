/- The walk of brackets.Pairs up to the sort. Condition: two lists of one length, at most a thousand; the table of last signs lies as laid. -/
import Derived.Test.YtbpaogmnaodcaaaDoorPairA
import Derived.Test.YtbpaogmnaodcaaaDoorPairP
namespace Go.Proofs.YtbpaogmnaodcaaaDoor
open Go.RowKit

theorem infoOpen : (Tryd.prog.info? 43).map (fun i => (i.zero, i.size, i.bytes)) = some (some (.agg #[.int .i32 0, .int .i64 0]), 2, 16) := by kernel_rfl
theorem info2 : (Tryd.prog.info? 29).map (fun i => (i.zero, i.size, i.bytes)) = some (some (.agg #[.int .i64 0, .int .i64 0]), 2, 16) := by kernel_rfl
theorem propOf_lit (r : Int) (w : World) (h : Lasts w) : Calls Tryd.prog 13 #[.int .i32 r] w fun e w' =>
    ∃ c k s j d m : Int, e = .returned (.agg #[.int .i64 (biOf r), .int .i64 c, .int .i64 k, .int .i64 s, .int .i64 j, .int .i64 d, .int .i32 m, .int .i32 (paOf r), .bool (opOf r)]) ∧ Below w.heap.size w w' := propOf_any r w h

/-- Up to a sign the pairs are told. -/
def PrsRel (w0 : World) (rs cs : List Int) (total : List (Int × Int)) (v5 v6 v19 : Value) (wr : World) : Prop :=
  ∃ (k m1 m2 c1 c2 : Nat) (pre r cpre cr : List Int) (st out : List (Int × Int)) (A1 A2 : Option Addr), v5 = .slice A1 m1 c1 ∧ v6 = .slice A2 m2 c2 ∧ v19 = .int .i64 (k : Int) ∧ pre.length = k ∧ cpre.length = k ∧ rs = pre ++ r ∧ cs = cpre ++ cr ∧
    Row2 .i32 wr w0.heap.size 43 A1 m1 c1 st ∧ Row2 .i64 wr w0.heap.size 29 A2 m2 c2 out ∧ Apart A1 A2 ∧ m1 ≤ 63 ∧ m2 ≤ k ∧ StOk k st ∧ prs k st out r cr = total ∧ Below w0.heap.size w0 wr

/-- What is asked of slices.SortFunc: the pairs come back by their first places. -/
def SortOk : Prop := ∀ (w : World) (base : Nat) (A : Option Addr) (n c : Nat) (l : List (Int × Int)), Row2 .i64 w base 29 A n c l → (∀ p ∈ l, 0 ≤ p.1 ∧ p.1 < 1000000) → base ≤ w.heap.size → n ≤ 1000000 →
  Calls Tryd.prog 20 #[.slice A n c, .func (.func 21) #[] #[]] w fun e w' => e = .returned (.tuple #[]) ∧ ∃ l', l'.Perm l ∧ l'.Pairwise (fun a b => a.1 ≤ b.1) ∧ Row2 .i64 w' base 29 A n c l' ∧ Below base w w'
/-- What a call leaves that hands back the pairs, by their first places, in a list of its own. -/
def RetPairs (w : World) (l : List (Int × Int)) (e : Ending) (w' : World) : Prop :=
  ∃ A c l', e = .returned (.slice A l.length c) ∧ l'.Perm l ∧ l'.Pairwise (fun a b => a.1 ≤ b.1) ∧ Row2 .i64 w' w.heap.size 29 A l.length c l' ∧ Below w.heap.size w w'

theorem cell2_lit (w : World) (y z : Value) (e : TypeId) {b : Nat} (hb : b = w.heap.size) : (w.alloc (.cells #[y, z] e)).cell? ⟨b, 0, none⟩ = some y ∧ (w.alloc (.cells #[y, z] e)).cell? ⟨b, 1, none⟩ = some z := by
  subst hb
  exact ⟨by rw [cell_of_row _ _ 0 _ _ _ (heap_alloc_new w (.cells #[y, z] e))]; rfl, by rw [cell_of_row _ _ 1 _ _ _ (heap_alloc_new w (.cells #[y, z] e))]; rfl⟩

theorem bounded_of {rs cs : List Int} {out : List (Int × Int)} {n : Nat} (h : prs 0 [] [] rs cs = out) (hl : rs.length = n) (hn : n ≤ 1000) : ∀ p ∈ out, 0 ≤ p.1 ∧ p.1 < 1000000 := by
  intro p hp
  have h1 := prs_ok rs cs 0 [] [] (fun p hp => by simp at hp) (fun p hp => by simp at hp)
  rw [h] at h1
  obtain ⟨a, b, h2, h3, h4, h5⟩ := h1 p hp
  omega

set_option maxRecDepth 100000 in
set_option maxHeartbeats 4000000 in
theorem pairs_any (B : Nat) (A A2 : Option Addr) (n c c2 : Nat) (rs cs : List Int) (w : World) (h : Runes w B A n c rs) (h2 : Ints w B A2 n c2 cs) (hB : B ≤ w.heap.size) (hn : n ≤ 1000) (hL : Lasts w) (hS : SortOk) :
    Calls Tryd.prog 10 #[.slice A n c, .slice A2 n c2] w (RetPairs w (prs 0 [] [] rs cs)) := by
  have hnn : ((n : Int) != (n : Int)) = false := by simp
  have hcap := h.cap
  have hcap2 := h2.cap
  have hl := h.length
  have hl2 := h2.length
  have hpos := hL.pos
  have HSO := Lib.hid hS
  have HI := Lib.hid h
  have HI2 := Lib.hid h2
  have HL := Lib.hid hl
  have HL2 := Lib.hid hl2
  have HLA := Lib.hid hL
  clear h h2 hl hl2 hL hS
  go_enter Tryd.func10, Tryd.ntmps10
  go_wp2_with fail
  go_loopw [5, 6, 19] (fun v5 v6 v19 wr => PrsRel w rs cs (prs 0 [] [] rs cs) v5 v6 v19 wr) (fun _ _ i _ => n - (intOf i).toNat)
  case atStart => exact ⟨0, 0, 0, 0, 0, [], rs, [], cs, [], [], none, none, rfl, rfl, rfl, rfl, rfl, rfl, rfl, Row2.nil_ _ _ _ _, Row2.nil_ _ _ _ _, Apart.none_left _, by omega, Nat.le_refl _, by intro p hp; simp at hp, rfl, Below.refl _ _⟩
  case round =>
    obtain ⟨k, m1, m2, q1, q2, pre, r, cpre, cr, st, out, S1, S2, rfl, rfl, rfl, hk, hkc, hz, hzc, hst, hout, hap, hm1, hm2, hsk, htot, hbel⟩ := hrel
    have hs := hbel.size
    have hsc := hst.cap
    have hoc := hout.cap
    rcases r with _ | ⟨x, r⟩
    · have hge : n ≤ k := by have := HL.out; rw [hz] at this; simp at this; omega
      have hkn : k ≤ n := by have := HL.out; rw [hz] at this; simp at this; omega
      have hcr : prs 0 [] [] rs cs = out := by rw [← htot]; simp [prs]
      have HTT := Lib.hid hcr
      have HOO := Lib.hid (bounded_of hcr HL.out hn)
      have HOUT := Lib.hid hout
      clear hz hzc hk hkc hst hout hap hsk htot hcr
      go_wp2_with (go_at_call 20; refine (HSO.out wr w.heap.size S2 m2 q2 out HOUT.out HOO.out hs (by omega)).mono ?_; rintro e w5 ⟨rfl, l5, hperm, hpw, hrow, hb5⟩)
      go_ret
      rw [HTT.out]
      have hol : out.length = m2 := HOUT.out.1
      exact ⟨S2, q2, l5, by rw [hol]; rfl, hperm, hpw, by rw [hol]; exact hrow, hbel.trans (hb5.mono (Nat.le_refl _))⟩
    · rcases cr with _ | ⟨y, cr⟩
      · exfalso; have h1 := HL.out; have h2 := HL2.out; rw [hz] at h1; rw [hzc] at h2; simp at h1 h2; omega
      have hlt : k < n := by have := HL.out; rw [hz] at this; simp at this; omega
      obtain ⟨b, of, rfl, hbb, hcx⟩ := (HI.out.below (hbel.mono hB)).get (k := k) (x := x) (by rw [hz, ← hk]; simp)
      obtain ⟨b2, of2, rfl, hbb2, _⟩ := HI2.out.get (k := k) (x := y) (by rw [hzc, ← hkc]; simp)
      have HLW := Lib.hid (HLA.out.below hbel hpos)
      have HZ := Lib.hid hz
      have HZC := Lib.hid hzc
      have HK := Lib.hid hk
      have HKC := Lib.hid hkc
      have HST := Lib.hid hst
      have HOUT := Lib.hid hout
      have HAP := Lib.hid hap
      have HSK := Lib.hid hsk
      have HT := Lib.hid htot
      have HY := Lib.hid (show (cpre ++ y :: cr)[k]? = some y by rw [← hkc]; simp)
      clear hz hzc hk hkc hst hout hap hsk htot
      go_upto_region 9 with (go_at_call 13; refine (propOf_lit x _ HLW.out).mono ?_; rintro e w1 ⟨p1, p2, p3, p4, p5, p6, rfl, hb1⟩)
      have hs1 := hb1.size
      have hbelA : Below w.heap.size w (w1.alloc (.cells #[.int .i64 (biOf x), .int .i64 p1, .int .i64 p2, .int .i64 p3, .int .i64 p4, .int .i64 p5, .int .i32 p6, .int .i32 (paOf x), .bool (opOf x)] 31)) :=
        (hbel.trans (hb1.mono hs)).alloc (by omega) _
      have hstA := (HST.out.below hb1 (Nat.le_refl _)).alloc (.cells #[.int .i64 (biOf x), .int .i64 p1, .int .i64 p2, .int .i64 p3, .int .i64 p4, .int .i64 p5, .int .i32 p6, .int .i32 (paOf x), .bool (opOf x)] 31)
      have houtA := (HOUT.out.below hb1 (Nat.le_refl _)).alloc (.cells #[.int .i64 (biOf x), .int .i64 p1, .int .i64 p2, .int .i64 p3, .int .i64 p4, .int .i64 p5, .int .i32 p6, .int .i32 (paOf x), .bool (opOf x)] 31)
      have c7 : (w1.alloc (.cells #[.int .i64 (biOf x), .int .i64 p1, .int .i64 p2, .int .i64 p3, .int .i64 p4, .int .i64 p5, .int .i32 p6, .int .i32 (paOf x), .bool (opOf x)] 31)).cell? ⟨w1.heap.size, 7, none⟩ = some (.int .i32 (paOf x)) := by rw [cell_of_row _ _ 7 _ _ _ (heap_alloc_new _ _)]; rfl
      have c8 : (w1.alloc (.cells #[.int .i64 (biOf x), .int .i64 p1, .int .i64 p2, .int .i64 p3, .int .i64 p4, .int .i64 p5, .int .i32 p6, .int .i32 (paOf x), .bool (opOf x)] 31)).cell? ⟨w1.heap.size, 8, none⟩ = some (.bool (opOf x)) := by rw [cell_of_row _ _ 8 _ _ _ (heap_alloc_new _ _)]; rfl
      have hbp : w1.heap.size < (w1.alloc (.cells #[.int .i64 (biOf x), .int .i64 p1, .int .i64 p2, .int .i64 p3, .int .i64 p4, .int .i64 p5, .int .i32 p6, .int .i32 (paOf x), .bool (opOf x)] 31)).heap.size := by simp
      obtain ⟨pa, hpa⟩ : ∃ z, z = paOf x := ⟨_, rfl⟩
      obtain ⟨op, hop⟩ : ∃ z, z = opOf x := ⟨_, rfl⟩
      have HPA := Lib.hid (And.intro hpa hop)
      rw [← hpa, ← hop] at c7 c8 hbelA hstA houtA hbp ⊢
      have HST2 := Lib.hid hstA
      have HOUT2 := Lib.hid houtA
      clear hpa hop hstA houtA HST HOUT hbel
      generalize w1.alloc (.cells #[.int .i64 (biOf x), .int .i64 p1, .int .i64 p2, .int .i64 p3, .int .i64 p4, .int .i64 p5, .int .i32 p6, .int .i32 pa, .bool op] 31) = w2 at *
      generalize w1.heap.size = bp at *
      obtain ⟨_, o9, e9, _, hcy⟩ := (HI2.out.below (hbelA.mono hB)).get (k := k) (x := y) (by rw [HZC.out]; exact HY.out)
      cases e9
      have hs2 := hbelA.size
      clear hb1 hs1
      by_cases hy : y = 14
      · subst hy
        have d1 : ((14 : Int) != 14) = false := by simp
        by_cases hp : pa = 0
        · subst hp
          have d2 : ((0 : Int) == 0) = true := by simp
          go_wp2_with fail
          go_roundw
          case rel => exact ⟨k + 1, m1, m2, q1, q2, pre ++ [x], r, cpre ++ [14], cr, st, out, S1, S2, rfl, rfl, by go_num, by simp [HK.out], by simp [HKC.out], by simp [HZ.out], by simp [HZC.out], HST2.out, HOUT2.out, HAP.out, hm1, by omega, fun p hp => by obtain ⟨a, h1, h2⟩ := HSK.out p hp; exact ⟨a, h1, by omega⟩, by rw [← HT.out, prs, if_pos (.inr HPA.out.1.symm)], hbelA⟩
          case measure => simp [intOf]; omega
        · have d2 : (pa == 0) = false := by simpa using hp
          have HP := Lib.hid hp
          clear hp
          rcases op with _ | _
          · -- a closing bracket
            have hlen : st.length = m1 := HST2.out.1
            have HLEN := Lib.hid hlen
            clear hlen
            obtain ⟨cn, hcn⟩ : ∃ z, z = canon pa := ⟨_, rfl⟩
            have HCN := Lib.hid hcn
            clear hcn
            go_upto_region 15 with (go_at_call 19; refine (canon_any pa _).mono ?_; rw [← HCN.out]; rintro e w9 ⟨rfl, rfl⟩)
            obtain ⟨tot, htot⟩ : ∃ z, z = seek st cn m1 := ⟨_, rfl⟩
            have HTOT := Lib.hid htot
            clear htot
            go_loop [5, 6, 11] (fun v5 v6 v => ∃ (z : Int) (j : Nat), v5 = .slice S1 m1 q1 ∧ v6 = .slice S2 m2 q2 ∧ v = .int .i64 z ∧ z = (j : Int) - 1 ∧ j ≤ m1 ∧ seek st cn j = tot) (fun _ _ v => (intOf v + 1).toNat)
            case atStart => exact ⟨_, m1, rfl, rfl, rfl, rfl, Nat.le_refl _, HTOT.out.symm⟩
            case round =>
              obtain ⟨z, j, rfl, rfl, rfl, hzj, hjm, hsk⟩ := hrel
              rcases j with _ | j
              · have hz1 : z = -1 := by omega
                subst hz1
                have hd0 : decide ((0 : Int) ≤ -1) = false := by simp
                have HN := Lib.hid hsk
                clear hsk hzj
                go_wp2_with fail
                go_roundw
                case rel =>
                  have hno : seek st (canon (paOf x)) st.length = none := by rw [HLEN.out, ← HPA.out.1, ← HCN.out, ← HTOT.out, ← HN.out]; rfl
                  exact ⟨k + 1, m1, m2, q1, q2, pre ++ [x], r, cpre ++ [14], cr, st, out, S1, S2, rfl, rfl, by go_num, by simp [HK.out], by simp [HKC.out], by simp [HZ.out], by simp [HZC.out], HST2.out, HOUT2.out, HAP.out, hm1, by omega, fun p hp => by obtain ⟨a, h1, h2⟩ := HSK.out p hp; exact ⟨a, h1, by omega⟩, by
                    rw [← HT.out, prs, if_neg (by rw [← HPA.out.1]; simpa using HP.out), if_neg (by rw [← HPA.out.2]; simp), hno], hbelA⟩
                case measure => simp [intOf]; omega
              · have hz1 : z = (j : Int) := by omega
                subst hz1
                obtain ⟨⟨sc, sa⟩, hsj⟩ : ∃ p, st[j]? = some p := ⟨_, List.getElem?_eq_getElem (by rw [HLEN.out]; omega)⟩
                obtain ⟨_, g5, rfl, hg51, hg52, e1, e2⟩ := HST2.out.at_ hsj
                have hgd : st.getD j (0, 0) = (sc, sa) := by rw [List.getD_eq_getElem?_getD, hsj]; rfl
                have hstep : seek st cn (j + 1) = if sc = cn then some j else seek st cn j := by rw [seek, hgd]
                have hd0 : decide ((0 : Int) ≤ (j : Int)) = true := by simp
                have hlt1 : j < m1 := by omega
                simp only at e1 e2
                have HGD := Lib.hid hgd
                have HN := Lib.hid hsk
                have HSTEP := Lib.hid hstep
                clear hsk hzj hgd hstep hsj
                by_cases hsc2 : sc = cn
                · have d3 : (sc == cn) = true := by simpa using hsc2
                  have HSC := Lib.hid hsc2
                  clear hsc2
                  have hjq : j ≤ q1 := by omega
                  go_wp2_with (first
                    | (at_builtin; refine wpList_append_2 _ rfl (.tmp 65) (.tmp 73) 26 rfl w.heap.size 29 .i64 _ Tryd.underlying26 info2 rfl S2 m2 q2 out rfl (HOUT2.out.alloc _) w2.heap.size 1 sa (k : Int) rfl (cell2_lit _ _ _ _ rfl).1 (cell2_lit _ _ _ _ rfl).2 (by omega) (by simp; omega) ?_; intro A3 c3 w3 ho3 hg3 hb3))
                  go_roundw
                  case rel =>
                    have hbn : Below w.heap.size w w3 := (hbelA.alloc (by omega) _).grown hg3 (by simp; omega) (fun g hgg => (HOUT2.out.block g hgg).1)
                    have hon := (HST2.out.alloc (.cells #[.int .i64 sa, .int .i64 (k : Int)] 29)).kept hg3 HAP.out
                    have hap2 := (HST2.out.alloc (.cells #[.int .i64 sa, .int .i64 (k : Int)] 29)).apart HAP.out hb3
                    have hyes : seek st (canon (paOf x)) st.length = some j := by rw [HLEN.out, ← HPA.out.1, ← HCN.out, ← HTOT.out, ← HN.out, HSTEP.out, if_pos HSC.out]
                    exact ⟨k + 1, j, m2 + 1, q1, c3, pre ++ [x], r, cpre ++ [14], cr, st.take j, out ++ [(sa, (k : Int))], some ⟨g5, 0, none⟩, A3, rfl, rfl, by go_num, by simp [HK.out], by simp [HKC.out], by simp [HZ.out], by simp [HZC.out], hon.take (by omega), ho3, hap2, by omega, by omega, fun p hp => by obtain ⟨a, h1, h2⟩ := HSK.out p (List.mem_of_mem_take hp); exact ⟨a, h1, by omega⟩, by
                      rw [← HT.out, prs, if_neg (by rw [← HPA.out.1]; simpa using HP.out), if_neg (by rw [← HPA.out.2]; simp), hyes]
                      simp only [HGD.out], hbn⟩
                  case measure => simp [intOf]; omega
                · have d3 : (sc == cn) = false := by simpa using hsc2
                  have HSC := Lib.hid hsc2
                  clear hsc2
                  go_wp2_with fail
                  go_round
                  case rel => exact ⟨_, j, rfl, rfl, rfl, by omega, by omega, by rw [← HN.out, HSTEP.out, if_neg HSC.out]⟩
                  case measure => simp [intOf]
          · -- an opening bracket
            have hlen : st.length = m1 := HST2.out.1
            have HLEN := Lib.hid hlen
            clear hlen
            by_cases h63 : m1 = 63
            · subst h63
              have d3 : ((63 : Int) == 63) = true := by simp
              have hcr : prs 0 [] [] rs cs = out := by
                rw [← HT.out, prs, if_neg (by rw [← HPA.out.1]; simpa using HP.out), if_pos HPA.out.2.symm, if_pos HLEN.out]
              have HTT := Lib.hid hcr
              have HOO := Lib.hid (bounded_of hcr HL.out hn)
              clear hcr
              go_wp2_with (go_at_call 20; refine (HSO.out w2 w.heap.size S2 m2 q2 out HOUT2.out HOO.out hs2 (by omega)).mono ?_; rintro e w5 ⟨rfl, l5, hperm, hpw, hrow, hb5⟩)
              go_ret
              rw [HTT.out]
              have hol : out.length = m2 := HOUT2.out.1
              exact ⟨S2, q2, l5, by rw [hol]; rfl, hperm, hpw, by rw [hol]; exact hrow, hbelA.trans (hb5.mono (Nat.le_refl _))⟩
            · have d3 : ((m1 : Int) == 63) = false := by simp; omega
              have d30 : (m1 == 63) = false := by simpa using h63
              have H63 := Lib.hid h63
              clear h63
              go_wp2_with (first
                | (go_at_call 19; refine (canon_any x _).mono ?_; rintro e w9 ⟨rfl, rfl⟩)
                | (at_builtin; refine wpList_append_2 _ rfl (.tmp 41) (.tmp 46) 40 rfl w.heap.size 43 .i32 _ Tryd.underlying40 infoOpen rfl S1 m1 q1 st rfl (HST2.out.alloc _) w2.heap.size 1 (canon x) (k : Int) rfl (cell2_lit _ _ _ _ rfl).1 (cell2_lit _ _ _ _ rfl).2 (by omega) (by simp; omega) ?_; intro A3 c3 w3 ho3 hg3 hb3))
              go_roundw
              case rel =>
                have hbn : Below w.heap.size w w3 := (hbelA.alloc (by omega) _).grown hg3 (by simp; omega) (fun g hgg => (HST2.out.block g hgg).1)
                have hon := (HOUT2.out.alloc (.cells #[.int .i32 (canon x), .int .i64 (k : Int)] 43)).kept hg3 HAP.out.symm
                have hap2 := ((HOUT2.out.alloc (.cells #[.int .i32 (canon x), .int .i64 (k : Int)] 43)).apart HAP.out.symm hb3).symm
                exact ⟨k + 1, m1 + 1, m2, c3, q2, pre ++ [x], r, cpre ++ [14], cr, st ++ [(canon x, (k : Int))], out, A3, S2, rfl, rfl, by go_num, by simp [HK.out], by simp [HKC.out], by simp [HZ.out], by simp [HZC.out], ho3, hon, hap2, by have := H63.out; omega, by omega, fun p hp => by
                  rcases List.mem_append.1 hp with hp | hp
                  · obtain ⟨a, h1, h2⟩ := HSK.out p hp; exact ⟨a, h1, by omega⟩
                  · simp at hp; subst hp; exact ⟨k, rfl, by omega⟩, by
                  rw [← HT.out, prs, if_neg (by rw [← HPA.out.1]; simpa using HP.out), if_pos HPA.out.2.symm, if_neg (by rw [HLEN.out]; exact H63.out)], hbn⟩
              case measure => simp [intOf]; omega
      · have d1 : (y != 14) = true := by simpa using hy
        have HYN := Lib.hid hy
        clear hy
        go_wp2_with fail
        go_roundw
        case rel => exact ⟨k + 1, m1, m2, q1, q2, pre ++ [x], r, cpre ++ [y], cr, st, out, S1, S2, rfl, rfl, by go_num, by simp [HK.out], by simp [HKC.out], by simp [HZ.out], by simp [HZC.out], HST2.out, HOUT2.out, HAP.out, hm1, by omega, fun p hp => by obtain ⟨a, h1, h2⟩ := HSK.out p hp; exact ⟨a, h1, by omega⟩, by rw [← HT.out, prs, if_pos (.inl HYN.out)], hbelA⟩
        case measure => simp [intOf]; omega

end Go.Proofs.YtbpaogmnaodcaaaDoor
