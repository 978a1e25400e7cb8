/- The walk of Resolve: pair by pair. Condition: lists of one length, at most a thousand; the table of last signs lies as laid; the sort sorts. -/
import Derived.Test.YtbpaogmnaodcaaaDoorKeepB
import Derived.Test.YtbpaogmnaodcaaaDoorPairS
namespace Go.Proofs.YtbpaogmnaodcaaaDoor
open Go.RowKit

theorem Row2.only {q : IntKind} {w w' : World} {base : Nat} {e : TypeId} {A A2 : Option Addr} {n c : Nat} {l : List (Int × Int)} (h : Row2 q w base e A n c l) (ho : Only A2 w w') (hA : ∀ a, A2 = some a → a.block < base) : Row2 q w' base e A n c l := by
  refine ⟨h.1, h.2.1, ?_⟩
  rcases h.2.2 with h | ⟨g, cap, cur, h, h1, h2, h3⟩
  · exact .inl h
  · have hg : g < w.heap.size := (Array.getElem?_eq_some_iff.1 h2).1
    exact .inr ⟨g, cap, cur, h, h1, (ho g hg (fun a ha => by have := hA a ha; omega)).trans h2, h3⟩
theorem Solver.only {w w' : World} {b : Nat} {tv cv : Value} {wy so : Int} {A : Option Addr} (h : Solver w b tv cv wy so) (ho : Only A w w') (hA : ∀ a, A = some a → a.block ≠ b) : Solver w' b tv cv wy so :=
  (ho b (Array.getElem?_eq_some_iff.1 h).1 hA).trans h
/-- the level's direction -/
def wayOf (lv : Int) : Int := if lv.tmod 2 = 0 then 1 else 2
theorem wayOf_cases (lv : Int) : wayOf lv = 1 ∨ wayOf lv = 2 := by unfold wayOf; split; exact .inl rfl; exact .inr rfl

set_option maxRecDepth 100000 in
set_option maxHeartbeats 4000000 in
theorem resolve_any (B : Nat) (A A2 : Option Addr) (n c c2 : Nat) (rs cs : List Int) (lv so : Int) (w : World) (h : Runes w B A n c rs) (h2 : Ints w B A2 n c2 cs) (hB : B ≤ w.heap.size) (hn : n ≤ 1000) (hL : Lasts w) :
    Calls Tryd.prog 15 #[.slice A n c, .slice A2 n c2, .int .i64 lv, .int .i64 so] w (RetList w n (rsv rs (wayOf lv) so cs (prsS rs cs))) := by
  have hnn : ((n : Int) != (n : Int)) = false := by simp
  have hcap := h.cap
  have hcap2 := h2.cap
  have hpos := hL.pos
  obtain ⟨tot, htot⟩ : ∃ z, z = rsv rs (wayOf lv) so cs (prsS rs cs) := ⟨_, rfl⟩
  rw [← htot]
  have HI := Lib.hid h
  have HI2 := Lib.hid h2
  have HLA := Lib.hid hL
  clear h h2 hL
  go_enter Tryd.func15, Tryd.ntmps15
  go_upto_region 4 with (go_at_call 27; refine (clone_any B A2 n c2 cs _ HI2.out hB (by omega)).mono ?_; rintro e w1 ⟨A3, c3, rfl, ho3, hb1⟩)
  by_cases hlv : lv.tmod 2 = 0
  · have d1 : (lv.tmod 2 != 0) = false := by simpa using hlv
    have hw : wayOf lv = 1 := by unfold wayOf; rw [if_pos hlv]
    rw [hw] at htot
    clear hlv hw
    go_upto_region 6 with (fail)
    have hs1 := hb1.size
    have hg3 := ho3.block
    have hsol : Solver (w1.alloc (.cells #[.slice A n c, .slice A3 n c3, .int .i64 1, .int .i64 so] 58)) w1.heap.size (.slice A n c) (.slice A3 n c3) 1 so := heap_alloc_new _ _
    have hb0 : Below w.heap.size w (w1.alloc (.cells #[.slice A n c, .slice A3 n c3, .int .i64 1, .int .i64 so] 58)) := hb1.alloc hs1 _
    have ho4 := ho3.alloc (.cells #[.slice A n c, .slice A3 n c3, .int .i64 1, .int .i64 so] 58)
    have hbs : w1.heap.size < (w1.alloc (.cells #[.slice A n c, .slice A3 n c3, .int .i64 1, .int .i64 so] 58)).heap.size := by simp
    have hc3 := ho3.cap
    clear hb1
    generalize w1.alloc (.cells #[.slice A n c, .slice A3 n c3, .int .i64 1, .int .i64 so] 58) = w2 at *
    generalize w1.heap.size = bs at *
    have HSOL := Lib.hid hsol
    have HO4 := Lib.hid ho4
    have hs2 := hb0.size
    clear hsol ho4 ho3
    have hnest := fun l5 h1 h2 => nested_of (l := l5) HI.out.length (CS := cs) h1 h2
    have hone := fun l5 h1 h2 => prsS_one (rs := rs) (cs := cs) (l := l5) h1 h2
    have hpa := pairs_any B A A2 n c c2 rs cs w2 (HI.out.below (hb0.mono hB)) (HI2.out.below (hb0.mono hB)) (Nat.le_trans hB hs2) hn (HLA.out.below hb0 hpos) sort_any
    obtain ⟨l, hl⟩ : ∃ l, l = prs 0 [] [] rs cs := ⟨_, rfl⟩
    rw [← hl] at hpa hnest hone
    have HPA := Lib.hid hpa
    have HNE := Lib.hid hnest
    have HONE := Lib.hid hone
    have HTOT := Lib.hid htot
    clear hpa hl hnest hone htot
    go_wp2_with (go_at_call 10; refine HPA.out.mono ?_; rintro e w3 ⟨Ap, cp, l5, rfl, hperm, hpw, hrow, hb3⟩)
    have hne := HNE.out l5 hperm hpw
    have htot := HTOT.out
    rw [← HONE.out l5 hperm hpw] at htot
    obtain ⟨m, hm⟩ : ∃ m, m = l.length := ⟨_, rfl⟩
    rw [← hm] at hrow ⊢
    have hs3 := hb3.size
    have hpc := hrow.cap
    have HROW := Lib.hid hrow
    have HNES := Lib.hid hne
    have HT := Lib.hid htot
    have HSOL3 := Lib.hid (HSOL.out.below hb3 hbs)
    have HO3 := Lib.hid (HO4.out.below hb3 (Nat.le_refl _))
    have HB0 := Lib.hid (hb0.trans (hb3.mono hs2))
    have HG3 := Lib.hid hg3
    clear hrow hperm hpw hm hb0 hb3 hne htot HTOT HONE HNE HPA HSOL HO4 hg3
    go_loopw [31] (fun v wr => ∃ (k : Nat) (cs' : List Int), v = .int .i64 (k : Int) ∧ k ≤ m ∧ rsv rs 1 so cs' (l5.drop k) = tot ∧ Own wr w.heap.size 3 A3 n c3 cs' ∧ Only A3 w3 wr ∧ Below w.heap.size w wr ∧ w3.heap.size ≤ wr.heap.size) (fun v _ => m - (intOf v).toNat)
    case atStart => exact ⟨0, cs, rfl, Nat.zero_le _, HT.out.symm, HO3.out, Only.refl _ _, HB0.out, Nat.le_refl _⟩
    case round =>
      obtain ⟨k, cs', rfl, hk, hto, how, hon, hbel, hsr⟩ := hrel
      have hsw := hbel.size
      by_cases hlt : k < m
      · obtain ⟨p, hp⟩ : ∃ p, l5[k]? = some p := ⟨_, List.getElem?_eq_getElem (by rw [HROW.out.1]; exact hlt)⟩
        have hdr : l5.drop k = p :: l5.drop (k + 1) := by
          obtain ⟨h1, h2⟩ := List.getElem?_eq_some_iff.1 hp
          rw [← h2]; exact List.drop_eq_getElem_cons h1
        obtain ⟨a, b, rfl, hab, hbn, _⟩ := HNES.out.at_ k p hp
        rw [hdr] at hto
        have hto2 : rsv rs 1 so (stepOf rs 1 so cs' ((a : Int), (b : Int))) (l5.drop (k + 1)) = tot := hto
        have hA3 : ∃ g, A3 = some ⟨g, 0, none⟩ := by obtain ⟨g, _, h1, _⟩ := how.at_ (k := 0) (by omega); exact ⟨g, h1⟩
        obtain ⟨g, rfl⟩ := hA3
        obtain ⟨hg1, hg2⟩ := HG3.out g rfl
        have hsolr := HSOL3.out.only hon (fun a ha => by cases ha; show g ≠ bs; omega)
        have hrowr := HROW.out.only hon (fun a ha => by cases ha; show g < w2.heap.size; omega)
        obtain ⟨_, gp, rfl, hg51, hg52, ca, cb⟩ := hrowr.at_ hp
        simp only at ca cb
        have hbsr : bs < wr.heap.size := by omega
        obtain ⟨wb, hwb⟩ : ∃ z, z = wr.alloc (.cells #[.int .i64 (a : Int), .int .i64 (b : Int)] 29) := ⟨_, rfl⟩
        have hbA : Below wr.heap.size wr wb := by rw [hwb]; exact (Below.refl _ _).alloc (Nat.le_refl _) _
        obtain ⟨pa, pb⟩ : wb.cell? ⟨wr.heap.size, 0, none⟩ = some (.int .i64 (a : Int)) ∧ wb.cell? ⟨wr.heap.size, 1, none⟩ = some (.int .i64 (b : Int)) := by rw [hwb]; exact cell2_lit wr _ _ _ rfl
        have hsb : wb.heap.size = wr.heap.size + 1 := by rw [hwb]; simp
        have hob := how.below hbA (Nat.le_refl _)
        have hsolb := hsolr.below hbA hbsr
        obtain ⟨_, s1, s2, s3⟩ := hsolb.cells
        obtain ⟨d, hd⟩ : ∃ z, z = insideOf 1 so cs' a b := ⟨_, rfl⟩
        have hin := inside_any wb.heap.size bs (some ⟨g, 0, none⟩) n c3 a b cs' 1 so wb hob.ints (Nat.le_refl _) hn (by decide) s1 s2 s3 hab hbn
        rw [← hd] at hin
        unfold stepOf at hto2
        simp only [Int.toNat_natCast] at hto2
        rw [← hd] at hto2
        rw [hwb] at hin
        have HIN := Lib.hid hin
        have HTO := Lib.hid hto2
        have HOB := Lib.hid hob
        have HSB := Lib.hid hsolb
        have HON := Lib.hid (hon.below hbA hsr)
        have HBW := Lib.hid (hbel.trans (hbA.mono hsw))
        have HRN := Lib.hid (show ∀ W, Below w.heap.size w W → Runes W B A n c rs ∧ Lasts W from fun W hW => ⟨HI.out.below (hW.mono hB), HLA.out.below hW hpos⟩)
        have HD := Lib.hid (And.intro hbA hd)
        have HPAB := Lib.hid (And.intro pa pb)
        have HWB := Lib.hid hwb
        clear hin hto hto2 how hon hbel hsolr hsolb hrowr hob hbA pa pb s1 s2 s3 hd hdr hp hwb
        by_cases hd0 : d = 0
        · subst hd0
          rw [if_pos rfl] at HTO
          have e0 : ((0 : Int) != 0) = false := by simp
          go_wp2_with (go_at_call 28; refine HIN.out.mono ?_; rintro e w5 ⟨rfl, hb5⟩)
          rw [← HWB.out] at hb5
          have HB5 := Lib.hid hb5
          clear hb5
          go_roundw
          case rel => exact ⟨k + 1, cs', by go_num, by omega, HTO.out, HOB.out.below HB5.out (Nat.le_refl _), HON.out.below HB5.out (by omega), HBW.out.trans (HB5.out.mono (by omega)), by have := HB5.out.size; omega⟩
          case measure => simp [intOf]; omega
        · rw [if_neg hd0] at HTO
          have e0 : (d != 0) = true := by simpa using hd0
          clear hd0
          go_wp2_with (first
            | (go_at_call 28; refine HIN.out.mono ?_; rintro e w5 ⟨rfl, hb5⟩; rw [← HWB.out] at hb5; have q5 := ((hb5.cell (p := ⟨wr.heap.size, 0, none⟩) (by show wr.heap.size < wb.heap.size; omega)).trans HPAB.out.1); have t5 := ((hb5.cell (p := ⟨wr.heap.size, 1, none⟩) (by show wr.heap.size < wb.heap.size; omega)).trans HPAB.out.2); have HB5 := Lib.hid hb5; clear hb5)
            | (go_at_call_of 29 (Value.int .i64 (a : Int)); refine (give_any B w.heap.size bs g A n c c3 a rs cs' d 1 so _ ((HRN.out _ (HBW.out.trans (HB5.out.mono (by omega)))).1) hB (HOB.out.below HB5.out (Nat.le_refl _)) (HSB.out.below HB5.out (by omega)) (by omega) (by omega) hpos hn (by omega) ((HRN.out _ (HBW.out.trans (HB5.out.mono (by omega)))).2)).mono ?_; rintro e w6 ⟨rfl, ho6, hs6, hb6, hon6⟩; have HO6 := Lib.hid ho6; have HS6 := Lib.hid hs6; have HB6 := Lib.hid (hb6); have HON6 := Lib.hid (hon6); have t6 : w6.cell? ⟨wr.heap.size, 1, none⟩ = some (.int .i64 (b : Int)) := ((by have h9 := hon6 wr.heap.size (by have := HB5.out.size; omega) (fun a ha => by cases ha; show g ≠ wr.heap.size; omega); simp only [World.cell?, h9]) : w6.cell? ⟨wr.heap.size, 1, none⟩ = w5.cell? ⟨wr.heap.size, 1, none⟩).trans t5; clear ho6 hs6 hb6 hon6)
            | (go_at_call_of 29 (Value.int .i64 (b : Int)); refine (give_any B w.heap.size bs g A n c c3 b rs _ d 1 so _ ((HRN.out _ ((HBW.out.trans (HB5.out.mono (by omega))).trans HB6.out)).1) hB HO6.out HS6.out (by omega) (by omega) hpos hn (by omega) ((HRN.out _ ((HBW.out.trans (HB5.out.mono (by omega))).trans HB6.out)).2)).mono ?_; rintro e w7 ⟨rfl, ho7, hs7, hb7, hon7⟩; have HO7 := Lib.hid ho7; have HB7 := Lib.hid hb7; have HON7 := Lib.hid hon7; clear ho7 hs7 hb7 hon7))
          go_roundw
          case rel =>
            have z5 := HB5.out.size
            have z6 := HB6.out.size
            have z7 := HB7.out.size
            exact ⟨k + 1, _, by go_num, by omega, HTO.out, HO7.out, ((HON.out.below HB5.out (by omega)).trans HON6.out (by omega)).trans HON7.out (by omega), ((HBW.out.trans (HB5.out.mono (by omega))).trans HB6.out).trans HB7.out, by omega⟩
          case measure => simp [intOf]; omega
      · have hge : m ≤ k := by omega
        have hdr : l5.drop k = [] := List.drop_eq_nil_of_le (by rw [HROW.out.1]; exact hge)
        rw [hdr] at hto
        have hto2 : cs' = tot := hto
        have HOW := Lib.hid how
        have HON := Lib.hid hon
        have HB := Lib.hid hbel
        obtain ⟨_, r1, _, _⟩ := (HSOL3.out.only hon (fun a ha => by
          have := HG3.out a.block (by rw [ha]; rfl)
          omega)).cells
        clear hto hdr how hon hbel
        go_wp2_with fail
        go_ret
        exact ⟨A3, c3, rfl, by rw [← hto2]; exact HOW.out, HB.out⟩
  · have d1 : (lv.tmod 2 != 0) = true := by simpa using hlv
    have hw : wayOf lv = 2 := by unfold wayOf; rw [if_neg hlv]
    rw [hw] at htot
    clear hlv hw
    go_upto_region 6 with (fail)
    have hs1 := hb1.size
    have hg3 := ho3.block
    have hsol : Solver (w1.alloc (.cells #[.slice A n c, .slice A3 n c3, .int .i64 2, .int .i64 so] 58)) w1.heap.size (.slice A n c) (.slice A3 n c3) 2 so := heap_alloc_new _ _
    have hb0 : Below w.heap.size w (w1.alloc (.cells #[.slice A n c, .slice A3 n c3, .int .i64 2, .int .i64 so] 58)) := hb1.alloc hs1 _
    have ho4 := ho3.alloc (.cells #[.slice A n c, .slice A3 n c3, .int .i64 2, .int .i64 so] 58)
    have hbs : w1.heap.size < (w1.alloc (.cells #[.slice A n c, .slice A3 n c3, .int .i64 2, .int .i64 so] 58)).heap.size := by simp
    have hc3 := ho3.cap
    clear hb1
    generalize w1.alloc (.cells #[.slice A n c, .slice A3 n c3, .int .i64 2, .int .i64 so] 58) = w2 at *
    generalize w1.heap.size = bs at *
    have HSOL := Lib.hid hsol
    have HO4 := Lib.hid ho4
    have hs2 := hb0.size
    clear hsol ho4 ho3
    have hnest := fun l5 h1 h2 => nested_of (l := l5) HI.out.length (CS := cs) h1 h2
    have hone := fun l5 h1 h2 => prsS_one (rs := rs) (cs := cs) (l := l5) h1 h2
    have hpa := pairs_any B A A2 n c c2 rs cs w2 (HI.out.below (hb0.mono hB)) (HI2.out.below (hb0.mono hB)) (Nat.le_trans hB hs2) hn (HLA.out.below hb0 hpos) sort_any
    obtain ⟨l, hl⟩ : ∃ l, l = prs 0 [] [] rs cs := ⟨_, rfl⟩
    rw [← hl] at hpa hnest hone
    have HPA := Lib.hid hpa
    have HNE := Lib.hid hnest
    have HONE := Lib.hid hone
    have HTOT := Lib.hid htot
    clear hpa hl hnest hone htot
    go_wp2_with (go_at_call 10; refine HPA.out.mono ?_; rintro e w3 ⟨Ap, cp, l5, rfl, hperm, hpw, hrow, hb3⟩)
    have hne := HNE.out l5 hperm hpw
    have htot := HTOT.out
    rw [← HONE.out l5 hperm hpw] at htot
    obtain ⟨m, hm⟩ : ∃ m, m = l.length := ⟨_, rfl⟩
    rw [← hm] at hrow ⊢
    have hs3 := hb3.size
    have hpc := hrow.cap
    have HROW := Lib.hid hrow
    have HNES := Lib.hid hne
    have HT := Lib.hid htot
    have HSOL3 := Lib.hid (HSOL.out.below hb3 hbs)
    have HO3 := Lib.hid (HO4.out.below hb3 (Nat.le_refl _))
    have HB0 := Lib.hid (hb0.trans (hb3.mono hs2))
    have HG3 := Lib.hid hg3
    clear hrow hperm hpw hm hb0 hb3 hne htot HTOT HONE HNE HPA HSOL HO4 hg3
    go_loopw [31] (fun v wr => ∃ (k : Nat) (cs' : List Int), v = .int .i64 (k : Int) ∧ k ≤ m ∧ rsv rs 2 so cs' (l5.drop k) = tot ∧ Own wr w.heap.size 3 A3 n c3 cs' ∧ Only A3 w3 wr ∧ Below w.heap.size w wr ∧ w3.heap.size ≤ wr.heap.size) (fun v _ => m - (intOf v).toNat)
    case atStart => exact ⟨0, cs, rfl, Nat.zero_le _, HT.out.symm, HO3.out, Only.refl _ _, HB0.out, Nat.le_refl _⟩
    case round =>
      obtain ⟨k, cs', rfl, hk, hto, how, hon, hbel, hsr⟩ := hrel
      have hsw := hbel.size
      by_cases hlt : k < m
      · obtain ⟨p, hp⟩ : ∃ p, l5[k]? = some p := ⟨_, List.getElem?_eq_getElem (by rw [HROW.out.1]; exact hlt)⟩
        have hdr : l5.drop k = p :: l5.drop (k + 1) := by
          obtain ⟨h1, h2⟩ := List.getElem?_eq_some_iff.1 hp
          rw [← h2]; exact List.drop_eq_getElem_cons h1
        obtain ⟨a, b, rfl, hab, hbn, _⟩ := HNES.out.at_ k p hp
        rw [hdr] at hto
        have hto2 : rsv rs 2 so (stepOf rs 2 so cs' ((a : Int), (b : Int))) (l5.drop (k + 1)) = tot := hto
        have hA3 : ∃ g, A3 = some ⟨g, 0, none⟩ := by obtain ⟨g, _, h1, _⟩ := how.at_ (k := 0) (by omega); exact ⟨g, h1⟩
        obtain ⟨g, rfl⟩ := hA3
        obtain ⟨hg1, hg2⟩ := HG3.out g rfl
        have hsolr := HSOL3.out.only hon (fun a ha => by cases ha; show g ≠ bs; omega)
        have hrowr := HROW.out.only hon (fun a ha => by cases ha; show g < w2.heap.size; omega)
        obtain ⟨_, gp, rfl, hg51, hg52, ca, cb⟩ := hrowr.at_ hp
        simp only at ca cb
        have hbsr : bs < wr.heap.size := by omega
        obtain ⟨wb, hwb⟩ : ∃ z, z = wr.alloc (.cells #[.int .i64 (a : Int), .int .i64 (b : Int)] 29) := ⟨_, rfl⟩
        have hbA : Below wr.heap.size wr wb := by rw [hwb]; exact (Below.refl _ _).alloc (Nat.le_refl _) _
        obtain ⟨pa, pb⟩ : wb.cell? ⟨wr.heap.size, 0, none⟩ = some (.int .i64 (a : Int)) ∧ wb.cell? ⟨wr.heap.size, 1, none⟩ = some (.int .i64 (b : Int)) := by rw [hwb]; exact cell2_lit wr _ _ _ rfl
        have hsb : wb.heap.size = wr.heap.size + 1 := by rw [hwb]; simp
        have hob := how.below hbA (Nat.le_refl _)
        have hsolb := hsolr.below hbA hbsr
        obtain ⟨_, s1, s2, s3⟩ := hsolb.cells
        obtain ⟨d, hd⟩ : ∃ z, z = insideOf 2 so cs' a b := ⟨_, rfl⟩
        have hin := inside_any wb.heap.size bs (some ⟨g, 0, none⟩) n c3 a b cs' 2 so wb hob.ints (Nat.le_refl _) hn (by decide) s1 s2 s3 hab hbn
        rw [← hd] at hin
        unfold stepOf at hto2
        simp only [Int.toNat_natCast] at hto2
        rw [← hd] at hto2
        rw [hwb] at hin
        have HIN := Lib.hid hin
        have HTO := Lib.hid hto2
        have HOB := Lib.hid hob
        have HSB := Lib.hid hsolb
        have HON := Lib.hid (hon.below hbA hsr)
        have HBW := Lib.hid (hbel.trans (hbA.mono hsw))
        have HRN := Lib.hid (show ∀ W, Below w.heap.size w W → Runes W B A n c rs ∧ Lasts W from fun W hW => ⟨HI.out.below (hW.mono hB), HLA.out.below hW hpos⟩)
        have HD := Lib.hid (And.intro hbA hd)
        have HPAB := Lib.hid (And.intro pa pb)
        have HWB := Lib.hid hwb
        clear hin hto hto2 how hon hbel hsolr hsolb hrowr hob hbA pa pb s1 s2 s3 hd hdr hp hwb
        by_cases hd0 : d = 0
        · subst hd0
          rw [if_pos rfl] at HTO
          have e0 : ((0 : Int) != 0) = false := by simp
          go_wp2_with (go_at_call 28; refine HIN.out.mono ?_; rintro e w5 ⟨rfl, hb5⟩)
          rw [← HWB.out] at hb5
          have HB5 := Lib.hid hb5
          clear hb5
          go_roundw
          case rel => exact ⟨k + 1, cs', by go_num, by omega, HTO.out, HOB.out.below HB5.out (Nat.le_refl _), HON.out.below HB5.out (by omega), HBW.out.trans (HB5.out.mono (by omega)), by have := HB5.out.size; omega⟩
          case measure => simp [intOf]; omega
        · rw [if_neg hd0] at HTO
          have e0 : (d != 0) = true := by simpa using hd0
          clear hd0
          go_wp2_with (first
            | (go_at_call 28; refine HIN.out.mono ?_; rintro e w5 ⟨rfl, hb5⟩; rw [← HWB.out] at hb5; have q5 := ((hb5.cell (p := ⟨wr.heap.size, 0, none⟩) (by show wr.heap.size < wb.heap.size; omega)).trans HPAB.out.1); have t5 := ((hb5.cell (p := ⟨wr.heap.size, 1, none⟩) (by show wr.heap.size < wb.heap.size; omega)).trans HPAB.out.2); have HB5 := Lib.hid hb5; clear hb5)
            | (go_at_call_of 29 (Value.int .i64 (a : Int)); refine (give_any B w.heap.size bs g A n c c3 a rs cs' d 2 so _ ((HRN.out _ (HBW.out.trans (HB5.out.mono (by omega)))).1) hB (HOB.out.below HB5.out (Nat.le_refl _)) (HSB.out.below HB5.out (by omega)) (by omega) (by omega) hpos hn (by omega) ((HRN.out _ (HBW.out.trans (HB5.out.mono (by omega)))).2)).mono ?_; rintro e w6 ⟨rfl, ho6, hs6, hb6, hon6⟩; have HO6 := Lib.hid ho6; have HS6 := Lib.hid hs6; have HB6 := Lib.hid (hb6); have HON6 := Lib.hid (hon6); have t6 : w6.cell? ⟨wr.heap.size, 1, none⟩ = some (.int .i64 (b : Int)) := ((by have h9 := hon6 wr.heap.size (by have := HB5.out.size; omega) (fun a ha => by cases ha; show g ≠ wr.heap.size; omega); simp only [World.cell?, h9]) : w6.cell? ⟨wr.heap.size, 1, none⟩ = w5.cell? ⟨wr.heap.size, 1, none⟩).trans t5; clear ho6 hs6 hb6 hon6)
            | (go_at_call_of 29 (Value.int .i64 (b : Int)); refine (give_any B w.heap.size bs g A n c c3 b rs _ d 2 so _ ((HRN.out _ ((HBW.out.trans (HB5.out.mono (by omega))).trans HB6.out)).1) hB HO6.out HS6.out (by omega) (by omega) hpos hn (by omega) ((HRN.out _ ((HBW.out.trans (HB5.out.mono (by omega))).trans HB6.out)).2)).mono ?_; rintro e w7 ⟨rfl, ho7, hs7, hb7, hon7⟩; have HO7 := Lib.hid ho7; have HB7 := Lib.hid hb7; have HON7 := Lib.hid hon7; clear ho7 hs7 hb7 hon7))
          go_roundw
          case rel =>
            have z5 := HB5.out.size
            have z6 := HB6.out.size
            have z7 := HB7.out.size
            exact ⟨k + 1, _, by go_num, by omega, HTO.out, HO7.out, ((HON.out.below HB5.out (by omega)).trans HON6.out (by omega)).trans HON7.out (by omega), ((HBW.out.trans (HB5.out.mono (by omega))).trans HB6.out).trans HB7.out, by omega⟩
          case measure => simp [intOf]; omega
      · have hge : m ≤ k := by omega
        have hdr : l5.drop k = [] := List.drop_eq_nil_of_le (by rw [HROW.out.1]; exact hge)
        rw [hdr] at hto
        have hto2 : cs' = tot := hto
        have HOW := Lib.hid how
        have HON := Lib.hid hon
        have HB := Lib.hid hbel
        obtain ⟨_, r1, _, _⟩ := (HSOL3.out.only hon (fun a ha => by
          have := HG3.out a.block (by rw [ha]; rfl)
          omega)).cells
        clear hto hdr how hon hbel
        go_wp2_with fail
        go_ret
        exact ⟨A3, c3, rfl, by rw [← hto2]; exact HOW.out, HB.out⟩

end Go.Proofs.YtbpaogmnaodcaaaDoor
