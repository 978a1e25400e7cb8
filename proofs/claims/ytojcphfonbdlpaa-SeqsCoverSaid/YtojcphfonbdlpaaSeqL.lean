/- The walk of the reference's Of. Condition: two lists of one length, at most a thousand; levels not below 0. -/
import Derived.Test.YtojcphfonbdlpaaSeqJ
import Derived.Test.YtojcphfonbdlpaaSeqK
namespace Go.Proofs.Ytojcphfonbdlpaa.Rf
open Go.RowKit Go.Maps

theorem find_row {cs ls : List Int} {rs : List Rw} (hl : cs.length = ls.length) (hrs : rs.map Rw.zs = Sq.runs cs ls) {p : Int} {j : Nat} (hj : (Sq.runs cs ls)[j]? = some (Sq.find (Sq.runs cs ls) p)) (hp : p ∈ Sq.find (Sq.runs cs ls) p) :
    ∃ q, Find p rs = some q ∧ rs[j]? = some q ∧ q.zs = Sq.find (Sq.runs cs ls) p := by
  rcases hf : Find p rs with _ | q
  · exfalso
    have h1 := List.find?_eq_none.1 hf
    have h2 := List.mem_of_getElem? hj
    rw [← hrs] at h2
    obtain ⟨q, hq, he⟩ := List.mem_map.1 h2
    have := h1 q hq
    rw [he, hrs] at this
    simp at this
    exact this hp
  · have h1 := List.find?_some hf
    have h2 := List.mem_of_find?_eq_some hf
    obtain ⟨i, hi⟩ := List.getElem?_of_mem h2
    have h3 : (Sq.runs cs ls)[i]? = some q.zs := by rw [← hrs]; simp [hi]
    have h4 : p ∈ q.zs := by simpa using h1
    have h5 := Sq.run_apart hl h3 hj h4 hp
    subst h5
    rw [hj] at h3
    exact ⟨q, rfl, hi, (Option.some.inj h3).symm⟩

theorem chain_ne (cs mt : List Int) (rs : List (List Int)) (f : Nat) {r : List Int} (h : r ≠ []) : Sq.chain cs mt rs f r ≠ [] := by
  rcases r with _ | ⟨a, r⟩
  · exact absurd rfl h
  · cases f with
    | zero => simp [Sq.chain]
    | succ f => rw [Sq.chain]; simp; simp

/-- Up to a run the sequences are told. -/
def OfRel (cs ls mt : List Int) (base : Int) (w4 : World) (rs : List Rw) (total : List Sq.Seq) (v i : Value) (wx : World) : Prop :=
  ∃ (k t : Nat) (pre r : List Rw) (A : Option Addr) (c : Nat) (so : List SRw), i = .int .i64 (k : Int) ∧ v = .slice A t c ∧ pre.length = k ∧ rs = pre ++ r ∧ Seqs wx w4.heap.size A t c so ∧ t ≤ k ∧
    so.map SRw.s ++ Sq.ofRuns cs ls mt (Sq.runs cs ls) base (r.map Rw.zs) = total ∧ Below w4.heap.size w4 wx

/-- A sequence is told up to a run; 'g' more rounds at most. -/
def InRel (cs ls mt : List Int) (rs : List Rw) (m b : Nat) (wo : World) (lv : Int) (total : List Int) (g : Nat) (v vn : Value) (wx : World) : Prop :=
  ∃ (nn mm c : Nat) (A : Option Addr) (ps : List Int), vn = .int .i64 (nn : Int) ∧ g + nn = m + 1 ∧ SCell wx b (.slice A mm c) lv 0 0 ∧ Own wx (b + 1) 3 A mm c ps ∧ Below b wo wx ∧
    ((∃ (i f lq : Nat) (q : Rw), v = .slice (some ⟨q.g, 0, none⟩) lq q.c ∧ lq = q.zs.length ∧ rs[i]? = some q ∧ f + nn = m ∧ m ≤ f + i ∧ ps ++ Sq.chain cs mt (Sq.runs cs ls) f q.zs = total ∧ mm ≤ 1000 * i) ∨
      (v = .slice none 0 0 ∧ ps = total ∧ mm ≤ 1000 * m))

set_option maxRecDepth 100000 in
set_option maxHeartbeats 8000000 in
theorem of_any (B : Nat) (A A2 : Option Addr) (n c c2 : Nat) (cs ls : List Int) (base : Int) (w : World) (h : Ints w B A n c cs) (h2 : Ints w B A2 n c2 ls) (hB : B ≤ w.heap.size) (hn : n ≤ 1000) (hb0 : 0 ≤ base) (hl0 : ∀ l ∈ ls, 0 ≤ l) :
    Calls Try.prog 12 #[.slice A n c, .slice A2 n c2, .int .i64 base] w (RetSeqs w (Sq.of cs ls base)) := by
  have hnn : ((n : Int) != (n : Int)) = false := by simp
  have hlen : cs.length = ls.length := by rw [h.length, h2.length]
  have hrl : (Sq.runs cs ls).length ≤ n := by
    have h1 := flat_long _ (Sq.runs_ne cs ls)
    rw [Sq.runs_flat hlen] at h1
    have h2 := Sq.keptF_length 0 cs
    have := h.length
    omega
  have hpl : ∀ r ∈ Sq.runs cs ls, ∀ p ∈ r, ∃ j : Nat, p = (j : Int) ∧ j < n := fun r hr p hp => by
    obtain ⟨j, h1, h2⟩ := Sq.keptF_mem 0 cs p (by rw [← Sq.runs_flat hlen]; exact List.mem_flatten.2 ⟨r, hr, hp⟩)
    exact ⟨j, h1, by have := h.length; omega⟩
  have hql : ∀ r ∈ Sq.runs cs ls, r.length ≤ n := fun r hr => by
    have h1 : (Sq.runs cs ls).flatten.length ≤ n := by rw [Sq.runs_flat hlen]; have := Sq.keptF_length 0 cs; have := h.length; omega
    have h2 := (List.sublist_flatten_of_mem hr).length_le
    omega
  have HPL := Lib.hid hpl
  have HQL := Lib.hid hql
  have HLEN := Lib.hid hlen
  have HI := Lib.hid h
  have HI2 := Lib.hid h2
  have HL0 := Lib.hid hl0
  clear h h2 hlen hpl hql hl0
  go_enter Try.func12, Try.ntmps12
  go_wp2_with fail
  refine (rruns_any B A A2 n c c2 cs ls _ HI.out HI2.out hB hn).mono ?_
  rintro e w1 ⟨Ao, co, rs, rfl, hrs, hg, hb1⟩
  obtain ⟨m, hm⟩ : ∃ m, m = (Sq.runs cs ls).length := ⟨_, rfl⟩
  rw [← hm] at hg hrl ⊢
  have hs1 := hb1.size
  have hgc := hg.cap
  have HG := Lib.hid hg
  have HRS := Lib.hid hrs
  have HM := Lib.hid hm
  clear hg hrs hm
  go_wp2_with fail
  refine (rmatch_any B A n c cs _ (HI.out.below (hb1.mono hB)) (by omega) (by omega)).mono ?_
  rintro e w4 ⟨Am, cm, rfl, hom, hb2⟩
  have hs2 := hb2.size
  have hmc := hom.cap
  obtain ⟨mt, hmt⟩ : ∃ mt, mt = Bd.mt cs := ⟨_, rfl⟩
  rw [← hmt] at hom
  have HMT := Lib.hid hmt
  have HOM4 := Lib.hid hom.ints
  have HG4 := Lib.hid (HG.out.below (hb2.mono (Nat.le_refl _)) (Nat.le_refl _))
  have HBW := Lib.hid (show Below w.heap.size w w4 from hb1.trans (hb2.mono hs1))
  have hlrs : rs.length = m := by rw [HM.out, ← HRS.out, List.length_map]
  have HLRS := Lib.hid hlrs
  have hcap := HI.out.cap
  have hcap2 := HI2.out.cap
  clear HG hom hmt hlrs
  go_wp2_with fail
  go_loopw [7, 10] (fun v i wx => OfRel cs ls mt base w4 rs (Sq.of cs ls base) v i wx) (fun _ i _ => m - (intOf i).toNat)
  case atStart => exact ⟨0, 0, [], rs, none, 0, [], rfl, rfl, rfl, rfl, Seqs.nil_ _ _, Nat.le_refl _, by rw [HRS.out, HMT.out]; rfl, Below.refl _ _⟩
  case round =>
    obtain ⟨k, t, pre, r, Aq, cq, so, rfl, rfl, hk, hz, hsq, htk, htot, hbel⟩ := hrel
    have hsx := hbel.size
    have hqc := hsq.cap
    rcases r with _ | ⟨q, r⟩
    · have hge : m ≤ k := by have := HLRS.out; rw [hz] at this; simp at this; omega
      have HSQ := Lib.hid hsq
      have HT := Lib.hid htot
      clear hz hk hsq htot
      go_wp2_with fail
      go_ret
      have e1 := HT.out
      have e2 : (Sq.of cs ls base).length = t := by rw [← e1, List.map_nil, Sq.ofRuns]; simp [HSQ.out.length]
      refine ⟨Aq, cq, so, by rw [e2]; rfl, by rw [← e1, List.map_nil, Sq.ofRuns]; simp, ?_, ?_⟩
      · rw [e2]; exact HSQ.out.more HBW.out.size
      · exact HBW.out.trans (hbel.mono HBW.out.size)
    · have hlt : k < m := by have := HLRS.out; rw [hz] at this; simp at this; omega
      have hq : rs[k]? = some q := by rw [hz, ← hk]; simp
      have hqr : (Sq.runs cs ls)[k]? = some q.zs := by rw [← HRS.out]; simp [hq]
      obtain ⟨_, go, rfl, hgo1, hgo2, hgoc, _⟩ := (HG4.out.below hbel (Nat.le_refl _)).at_ hq
      have hoq := (HG4.out.own hq).ints
      have hrc := hoq.cap
      have hqn := HQL.out q.zs (List.mem_of_getElem? hqr)
      have hqne := Sq.runs_ne cs ls q.zs (List.mem_of_getElem? hqr)
      obtain ⟨p0, hp0⟩ : ∃ p0, p0 = q.zs.headD 0 := ⟨_, rfl⟩
      have hq0 : q.zs[0]? = some p0 := by rw [hp0]; revert hqne; cases q.zs <;> simp
      obtain ⟨pn, rfl, hpn⟩ := HPL.out q.zs (List.mem_of_getElem? hqr) p0 (List.mem_of_getElem? hq0)
      obtain ⟨b5, o5, e5, _, hc5⟩ := (hoq.below hbel).get hq0
      cases e5
      simp only [Nat.add_zero] at hc5
      obtain ⟨b6, o6, rfl, hb6, hc6⟩ := (HOM4.out.below hbel).get (at0_get (p := pn) (by rw [HOM4.out.length]; exact hpn))
      obtain ⟨b7, o7, rfl, hb7, hc7⟩ := (HI.out.below ((HBW.out.trans (hbel.mono HBW.out.size)).mono hB)).get (at0_get (p := pn) (by rw [HI.out.length]; exact hpn))
      obtain ⟨b8, o8, rfl, hb8, hc8⟩ := (HI2.out.below ((HBW.out.trans (hbel.mono HBW.out.size)).mono hB)).get (at0_get (p := pn) (by rw [HI2.out.length]; exact hpn))
      have hled : Sq.led cs mt q.zs = (Sq.at0 mt (pn : Int) != -1 && Sq.at0 cs (pn : Int) == 23) := by rw [hp0]; rfl
      obtain ⟨x6, hx6⟩ : ∃ x, x = Sq.at0 mt (pn : Int) := ⟨_, rfl⟩
      obtain ⟨x7, hx7⟩ : ∃ x, x = Sq.at0 cs (pn : Int) := ⟨_, rfl⟩
      obtain ⟨x8, hx8⟩ : ∃ x, x = Sq.at0 ls (pn : Int) := ⟨_, rfl⟩
      rw [← hx6, ← hx7] at hled
      rw [← hx6] at hc6
      rw [← hx7] at hc7
      rw [← hx8] at hc8
      obtain ⟨lq, hlq⟩ : ∃ l, l = q.zs.length := ⟨_, rfl⟩
      rw [← hlq] at hgoc hrc hqn
      have hlq0 : 0 < lq := by rw [hlq]; exact List.length_pos_iff.2 hqne
      obtain ⟨ld, hld⟩ : ∃ ld, ld = Sq.led cs mt q.zs := ⟨_, rfl⟩
      rw [← hld] at hled
      have HZ := Lib.hid hz
      have HK := Lib.hid hk
      have HSQ := Lib.hid hsq
      have HT := Lib.hid htot
      have HQ := Lib.hid hq
      have HQR := Lib.hid hqr
      have HP0 := Lib.hid hp0
      have HQ0 := Lib.hid hq0
      have HX := Lib.hid (And.intro hx6 (And.intro hx7 hx8))
      have HLQ := Lib.hid hlq
      have HLD := Lib.hid hld
      have HLE := Lib.hid hled
      clear hz hk hsq htot hq hqr hp0 hq0 hx6 hx7 hx8 hlq hoq hqne hled hld
      go_upto_region 9 with fail
      go_cut [55] (fun c W => c = .bool ld ∧ W = wr)
      case first =>
        by_cases h7 : x7 = 23
        · subst h7
          have d1 : ((23 : Int) == 23) = true := by simp
          go_wp2_with fail
          go_meet
          exact ⟨by rw [HLE.out]; simp, rfl⟩
        · have d1 : (x7 == 23) = false := by simpa using h7
          have D1 := Lib.hid d1
          clear h7
          go_wp2_with fail
          go_meet
          exact ⟨by rw [HLE.out, D1.out]; simp, rfl⟩
      case rest =>
        obtain ⟨rfl, rfl⟩ := hcut
        rcases ld with _ | _
        case true =>
          go_wp2_with fail
          go_roundw
          case rel => exact ⟨k + 1, t, pre ++ [q], r, Aq, cq, so, by go_num, rfl, by simp [HK.out], by simp [HZ.out], HSQ.out, by omega, by rw [← HT.out, List.map_cons, Sq.ofRuns_cons, if_pos HLD.out.symm], hbel⟩
          case measure => simp [intOf]; omega
        case false =>
          obtain ⟨wo, hwo⟩ : ∃ x, x = wc := ⟨_, rfl⟩
          subst hwo
          go_wp2_with fail
          clear hc5 hc6 hc7
          obtain ⟨total, htotal⟩ : ∃ x, x = Sq.chain cs mt (Sq.runs cs ls) m q.zs := ⟨_, rfl⟩
          have HTO := Lib.hid htotal
          clear htotal
          go_loopg [12, 13] (m + 1) (fun gk v vn wx => InRel cs ls mt rs m wo.heap.size wo x8 total gk v vn wx)
          case atStart => exact ⟨0, 0, 0, none, [], rfl, rfl, SCell.new _ _ _ _ _, Own.nil_ _ _ _, (Below.refl _ _).alloc (Nat.le_refl _) _, .inl ⟨k, m, lq, q, rfl, HLQ.out, HQ.out, rfl, by omega, by rw [HTO.out]; rfl, Nat.zero_le _⟩⟩
          case round =>
            clear hgoc hrc hqn hc8 hlq0 hqc hlt
            obtain ⟨nn, mm, cA, Ap, ps, rfl, hgn, hsc, hop, hbel2, hcase⟩ := hrel
            have hs2x := hbel2.size
            have hoc := hop.cap
            have hlt5 := hsc.lt
            have hlen5 : ps.length = mm := hop.length
            have HLEN5 := Lib.hid hlen5
            have HGN := Lib.hid hgn
            clear hlen5
            rcases hcase with ⟨i, f, lq2, q2, rfl, hlq2, hq2, hfn, hgi, hch, hmm2⟩ | ⟨rfl, hps, hmm2⟩
            · have hq2r : (Sq.runs cs ls)[i]? = some q2.zs := by rw [← HRS.out]; simp [hq2]
              have hq2m := List.mem_of_getElem? hq2r
              have him : i < m := by have := (List.getElem?_eq_some_iff.1 hq2).1; rw [HLRS.out] at this; exact this
              have ho2 := (HG4.out.own hq2).ints
              rw [← hlq2] at ho2
              have hq2n := HQL.out q2.zs hq2m
              rw [← hlq2] at hq2n
              obtain ⟨d, xl, hdx⟩ : ∃ d xl, q2.zs = d ++ [xl] := by
                rcases List.eq_nil_or_concat q2.zs with h0 | ⟨d, x, h0⟩
                · exact absurd h0 (Sq.runs_ne cs ls q2.zs hq2m)
                · exact ⟨d, x, by rw [h0]; simp⟩
              obtain ⟨l', hl'⟩ : ∃ l', l' = d.length := ⟨_, rfl⟩
              have hlq3 : lq2 = l' + 1 := by rw [hlq2, hdx, hl']; simp
              subst hlq3
              obtain ⟨ln, rfl, hln⟩ := HPL.out q2.zs hq2m xl (by rw [hdx]; simp)
              have hlast : q2.zs.getLastD 0 = (ln : Int) := by rw [hdx]; simp
              have hgetl : q2.zs[l']? = some (ln : Int) := by rw [hdx, hl']; simp
              have hq2c := ho2.cap
              have HOP := Lib.hid hop
              have HSC := Lib.hid hsc
              have HO24 := Lib.hid ho2
              have HCH := Lib.hid hch
              have HQ2 := Lib.hid hq2
              have HQ2R := Lib.hid hq2r
              have HDX := Lib.hid hdx
              have HLA := Lib.hid hlast
              have HGL := Lib.hid hgetl
              have HL' := Lib.hid hl'
              have HLQ2 := Lib.hid hlq2
              have HFN := Lib.hid hfn
              have hnm : (nn : Int) ≤ (m : Int) := by omega
              have hln0 : (0 : Int) < (l' : Int) + 1 := by omega
              clear hop hsc ho2 hch hq2 hq2r hdx hlast hgetl hl' hlq2 hq2m hfn hgn
              go_wp2_with fail
              obtain ⟨wi, hwi⟩ : ∃ x, x = wr := ⟨_, rfl⟩
              subst hwi
              go_loopw [14] (fun v wx => ∃ (j c3 : Nat) (A3 : Option Addr), v = .int .i64 (j : Int) ∧ j ≤ l' + 1 ∧ SCell wx wo.heap.size (.slice A3 (mm + j) c3) x8 0 0 ∧ Own wx (wo.heap.size + 1) 3 A3 (mm + j) c3 (ps ++ q2.zs.take j) ∧ Below wo.heap.size wo wx) (fun v _ => (l' + 1) - (intOf v).toNat)
              case atStart => exact ⟨0, cA, Ap, rfl, Nat.zero_le _, HSC.out, by simpa using HOP.out, hbel2⟩
              case round =>
                obtain ⟨j, c3, A3, rfl, hj, hs5, ho5, hbel5⟩ := hrel
                have hs5x := hbel5.size
                have hbw5 : Below w4.heap.size w4 wr := hbel.trans (hbel5.mono hsx)
                have hbww : Below w.heap.size w wr := HBW.out.trans (hbw5.mono HBW.out.size)
                have ho5c := ho5.cap
                have hlt6 := hs5.lt
                by_cases hjl : j < l' + 1
                · obtain ⟨pj, hpj⟩ : ∃ p, q2.zs[j]? = some p := ⟨_, List.getElem?_eq_getElem (by rw [← HLQ2.out]; exact hjl)⟩
                  obtain ⟨_, o, e, _, hcl⟩ := (HO24.out.below hbw5).get hpj
                  cases e
                  simp only [Nat.zero_add] at hcl
                  obtain ⟨e0, -, -, -⟩ := hs5.cells
                  have hbo : ∀ g, (Value.slice A3 (mm + j) c3).ownBlock = some g → wo.heap.size + 1 ≤ g := fun g hg => (Own.block ho5 g hg).1
                  have hsA := hs5.alloc (.cells #[.int .i64 pj] 3)
                  have eA := hsA.cells.1
                  have HS9 := Lib.hid hs5
                  have HO9 := Lib.hid ho5
                  have HPJ := Lib.hid hpj
                  clear hs5 ho5 hpj hsA
                  go_wp2_with fail
                  go_region_law ((refine step_append_int rfl (.tmp 88) (.tmp 93) 22 rfl (wo.heap.size + 1) 3 Try.underlying22 Try.infoInt A3 (mm + j) c3 (ps ++ q2.zs.take j) (by rfl) (by exact HO9.out.drew.alloc _) wr.heap.size 1 pj (by rfl) (cell_lit _ _ _ (by rfl)) (by omega) (by simp; omega) ?_; intro A4 c4 w10 ho10 hg10 hb10; have hs10 := ((HS9.out.drew).alloc (.cells #[.int .i64 pj] 3)).grown hg10 (by intro e; have := hbo _ e.symm; omega); obtain ⟨ce0, ce1, ce2, ce3⟩ := hs10.cells; have f0 := hs10.frozen 0))
                  all_goals
                    go_wp2_with fail
                    go_roundw
                    case rel =>
                      have hb11 : Below wo.heap.size wo w10 := ((hbel5.drew).alloc (by exact hs5x) _).grown hg10 (by simp; omega) (fun g hg => by have := hbo g hg; omega)
                      have ho11 := ho10.far (p := ⟨wo.heap.size, 0, none⟩) (by rintro a rfl; have := (Own.block ho10 a.block (by simp [Value.ownBlock])).1; show a.block ≠ wo.heap.size; omega) (.slice A4 (mm + j + 1) c4)
                      exact ⟨j + 1, c4, A4, by go_num, by omega, hs10.set0 _, by
                        have h1 : ps ++ q2.zs.take (j + 1) = ps ++ q2.zs.take j ++ [pj] := by rw [List.take_add_one, HPJ.out, List.append_assoc]; rfl
                        rw [h1]; exact ho11, hb11.setCell (p := ⟨wo.heap.size, 0, none⟩) (Nat.le_refl _) _⟩
                    case measure => simp [intOf]; omega
                · have hjl' : j = l' + 1 := by omega
                  subst hjl'
                  have htk5 : q2.zs.take (l' + 1) = q2.zs := by rw [HLQ2.out]; simp
                  rw [htk5] at ho5
                  obtain ⟨_, o, e, _, hcl⟩ := (HO24.out.below hbw5).get HGL.out
                  cases e
                  simp only [Nat.zero_add] at hcl
                  obtain ⟨_, o, e, _, hc9⟩ := (HI.out.below (hbww.mono hB)).get (at0_get (p := ln) (by rw [HI.out.length]; exact hln))
                  cases e
                  obtain ⟨_, o, e, _, hc10⟩ := (HOM4.out.below hbw5).get (at0_get (p := ln) (by rw [HOM4.out.length]; exact hln))
                  cases e
                  have hgo : Sq.goes cs mt q2.zs = (Sq.ini (Sq.at0 cs (ln : Int)) && Sq.at0 mt (ln : Int) != -1) := by unfold Sq.goes; rw [HLA.out]
                  obtain ⟨y6, hy6⟩ : ∃ x, x = Sq.at0 mt (ln : Int) := ⟨_, rfl⟩
                  obtain ⟨y7, hy7⟩ : ∃ x, x = Sq.at0 cs (ln : Int) := ⟨_, rfl⟩
                  obtain ⟨gs, hgs⟩ : ∃ x, x = Sq.goes cs mt q2.zs := ⟨_, rfl⟩
                  rw [← hgs, ← hy6, ← hy7] at hgo
                  rw [← hy6] at hc10
                  rw [← hy7] at hc9
                  have HY := Lib.hid (And.intro hy6 hy7)
                  have HGO := Lib.hid hgo
                  have HGS := Lib.hid hgs
                  have HS5 := Lib.hid hs5
                  have HO5 := Lib.hid ho5
                  clear hy6 hy7 hgo hgs hs5 ho5 htk5
                  have hwr : IntKind.i64.wrap (l' : Int) = (l' : Int) := by rw [IntKind.wrap_i64]; omega
                  have hi0 : (l' : Int) < (l' : Int) + 1 := by omega
                  go_upto_region 21 with (fail)
                  go_cut [113] (fun c W => c = .bool gs ∧ W = wr)
                  case first =>
                    rcases hin : Sq.ini y7 with _ | _
                    · have HIN := Lib.hid hin
                      clear hin
                      go_wp2_with (go_at_call 17; refine (rini_any y7 false HIN.out _).mono ?_; rintro e w3 ⟨rfl, rfl⟩)
                      go_meet
                      exact ⟨by rw [HGO.out, HIN.out]; rfl, rfl⟩
                    · have HIN := Lib.hid hin
                      clear hin
                      go_wp2_with (go_at_call 17; refine (rini_any y7 true HIN.out _).mono ?_; rintro e w3 ⟨rfl, rfl⟩)
                      go_meet
                      exact ⟨by rw [HGO.out, HIN.out]; simp, rfl⟩
                  case rest =>
                    obtain ⟨rfl, rfl⟩ := hcut
                    rcases gs with _ | _
                    case true =>
                      obtain ⟨qn, j, f', hgk, hm6, hqn2, hjf, hqmem, hij, hf', hchain⟩ := Sq.chain_on (f := f) HLEN.out HQ2R.out (by rw [← HM.out]; exact hgi) (by rw [← HMT.out]; exact HGS.out.symm)
                      rw [← HMT.out] at hm6 hchain
                      rw [HLA.out, ← HY.out.1] at hm6
                      subst hm6
                      have hqn3 : qn < n := by have := HI.out.length; omega
                      obtain ⟨q3, hfq, hq3, hq3z⟩ := find_row HLEN.out HRS.out hjf hqmem
                      have HFQ := Lib.hid hfq
                      have HCHN := Lib.hid hchain
                      have HQ3 := Lib.hid (And.intro hq3 hq3z)
                      have HGK := Lib.hid hgk
                      have HG5 := Lib.hid (HG4.out.below hbw5 (Nat.le_refl _))
                      clear hfq hchain hjf hqmem hq3 hq3z hgk
                      go_wp2_with (go_at_call 33; refine (with_any _ _ m co rs (qn : Int) _ HG5.out).mono ?_; rw [HFQ.out]; rintro e w3 ⟨rfl, rfl⟩)
                      go_roundg (gk - 1)
                      case measure => have := HGN.out; omega
                      case rel =>
                        exact ⟨nn + 1, mm + (l' + 1), c3, A3, ps ++ q2.zs, by go_num, by have := HGN.out; omega, HS5.out, HO5.out, hbel5, .inl ⟨j, f', q3.zs.length, q3, rfl, rfl, HQ3.out.1, by have := HGK.out; have := HFN.out; omega, by rw [HM.out]; exact hf', by
                          rw [← HCH.out, HCHN.out, HQ3.out.2, List.append_assoc], by omega⟩⟩
                    case false =>
                      go_wp2_with fail
                      go_roundg (gk - 1)
                      case measure => have := HGN.out; omega
                      case rel =>
                        exact ⟨nn + 1, mm + (l' + 1), c3, A3, ps ++ q2.zs, by go_num, by have := HGN.out; omega, HS5.out, HO5.out, hbel5, .inr ⟨rfl, by
                          have h1 := HCH.out
                          rw [Sq.chain_stop (by rw [HMT.out] at HGS ⊢; exact HGS.out.symm)] at h1; exact h1, by omega⟩⟩
            · have hmemt : ∀ p ∈ total, ∃ j : Nat, p = (j : Int) ∧ j < n := fun p hp => by
                rw [HTO.out] at hp
                obtain ⟨q9, h1, h2⟩ := chain_in cs mt (Sq.runs cs ls) m q.zs (.inr (List.mem_of_getElem? HQR.out)) p hp
                exact HPL.out q9 h1 p h2
              have htne : total ≠ [] := by rw [HTO.out]; exact chain_ne _ _ _ _ (Sq.runs_ne cs ls q.zs (List.mem_of_getElem? HQR.out))
              rw [hps] at hop
              have htl : total.length = mm := hop.length
              obtain ⟨L, hL⟩ : ∃ L, mm = L + 1 := ⟨mm - 1, by have := List.length_pos_iff.2 htne; omega⟩
              subst hL
              obtain ⟨d, xl, hdx⟩ : ∃ d xl, total = d ++ [xl] := by
                rcases List.eq_nil_or_concat total with h0 | ⟨d, x, h0⟩
                · exact absurd h0 htne
                · exact ⟨d, x, by rw [h0]; simp⟩
              obtain ⟨ln, rfl, hln⟩ := hmemt xl (by rw [hdx]; simp)
              have hlastt : total.getLastD 0 = (ln : Int) := by rw [hdx]; simp
              have hgl : total[L]? = some (ln : Int) := by
                have : d.length = L := by rw [hdx] at htl; simpa using htl
                rw [hdx, ← this]; simp
              obtain ⟨f0, hf0⟩ : ∃ f0, f0 = total.headD 0 := ⟨_, rfl⟩
              have hgf : total[0]? = some f0 := by
                rw [hf0]
                cases hz9 : total with
                | nil => exact absurd hz9 htne
                | cons y ys => rfl
              obtain ⟨fn, rfl, hfn⟩ := hmemt f0 (List.mem_of_getElem? hgf)
              obtain ⟨g3, x9, rfl, hg31, hg32, -, -, -⟩ := hop.at_ (k := 0) (by omega)
              obtain ⟨b9, o9, e9, _, hcf⟩ := hop.ints.get hgf
              cases e9
              obtain ⟨b9, o9, e9, _, hce⟩ := hop.ints.get hgl
              cases e9
              simp only [Nat.add_zero, Nat.zero_add] at hcf hce
              have hbw5 : Below w4.heap.size w4 wr := hbel.trans (hbel2.mono hsx)
              have hbww : Below w.heap.size w wr := HBW.out.trans (hbw5.mono HBW.out.size)
              obtain ⟨y7, hy7⟩ : ∃ x, x = Sq.at0 cs (ln : Int) := ⟨_, rfl⟩
              have HY := Lib.hid hy7
              have HSC := Lib.hid hsc
              have HOP := Lib.hid hop
              have HT5 := Lib.hid htl
              have HLT := Lib.hid hlastt
              have HF0 := Lib.hid hf0
              have hLl : L < 2000000 := by omega
              have hwrL : IntKind.i64.wrap (L : Int) = (L : Int) := by rw [IntKind.wrap_i64]; omega
              have hiL : (L : Int) < (L : Int) + 1 := by omega
              have hiL0 : (0 : Int) < (L : Int) + 1 := by omega
              obtain ⟨e0, e1, e2, -⟩ := hsc.cells
              have k2 := hsc.frozen 2
              clear hsc hop htl hlastt hgl hgf hf0 hmemt htne hps hdx hgn hmm2 hy7
              go_upto_region 13 with (fail)
              go_cut [78] (fun c W => c = .bool false ∧ W = wr)
              case first =>
                by_cases hnm : (nn : Int) ≤ (m : Int)
                · go_wp2_with fail
                  go_meet
                  exact ⟨rfl, rfl⟩
                · have d1 : decide ((nn : Int) ≤ (m : Int)) = false := by simpa using hnm
                  go_wp2_with fail
                  go_meet
                  exact ⟨rfl, rfl⟩
              case rest =>
                obtain ⟨rfl, rfl⟩ := hcut
                go_upto_region 24 with (fail)
                have HI6 := Lib.hid (HI.out.below (hbww.mono hB))
                have HI26 := Lib.hid (HI2.out.below (hbww.mono hB))
                obtain ⟨sv, hsv⟩ : ∃ x, x = Sq.near base (cs.take fn).reverse (ls.take fn).reverse := ⟨_, rfl⟩
                have hsv0 : 0 ≤ sv := by rw [hsv]; exact near_nonneg hb0 _ _ (fun l hl => HL0.out l (by simp at hl; exact List.mem_of_mem_take hl))
                have hx80 : 0 ≤ x8 := by
                  rw [HX.out.2.2]
                  have h1 := at0_get (zs := ls) (p := pn) (by rw [HI2.out.length]; exact hpn)
                  exact HL0.out _ (List.mem_of_getElem? h1)
                have HSV := Lib.hid hsv
                clear hsv
                have hwo : w.heap.size ≤ wo.heap.size := Nat.le_trans HBW.out.size hsx
                go_cut [] (fun W => SCell W wo.heap.size (.slice (some ⟨g3, 0, none⟩) (L + 1) cA) x8 (Sq.side x8 sv) 0 ∧ Own W (wo.heap.size + 1) 3 (some ⟨g3, 0, none⟩) (L + 1) cA total ∧ Below wo.heap.size wo W ∧ Below w.heap.size w W)
                case first =>
                  have hN : Calls Try.prog 35 #[.slice (some ⟨b7, o7, none⟩) n c, .slice (some ⟨b8, o8, none⟩) n c2, .int .i64 (fn : Int), .int .i64 (-1), .int .i64 base] wc.drew (fun e w' => e = .returned (.int .i64 sv) ∧ wc.drew = w') := by
                    rw [HSV.out]; exact beside_down B _ _ n c c2 fn cs ls base _ HI6.out.drew HI26.out.drew hfn
                  have HN := Lib.hid hN
                  clear hN
                  go_region_with (first
                    | (go_at_call 35; refine HN.out.mono ?_; rintro e w9 ⟨rfl, rfl⟩)
                    | (go_at_call 34; refine (way_any x8 sv hx80 hsv0 _).mono ?_; rintro e w9 ⟨rfl, rfl⟩))
                  all_goals
                    go_wp2_with fail
                    go_meet
                    exact ⟨(HSC.out.set2 _).drew, (HOP.out.far (by intro a ha; cases ha; show g3 ≠ wo.heap.size; omega) _).drew, (hbel2.setCell (p := ⟨wo.heap.size, 2, none⟩) (Nat.le_refl _) _).drew, (hbww.setCell (p := ⟨wo.heap.size, 2, none⟩) hwo _).drew⟩
                case rest =>
                  clear HSC HOP HI6 HI26 hbel2 hbww e0 e1 e2 k2 hcf hce hbw5
                  obtain ⟨hs7, ho7, hbel7, hbw7⟩ := hcut
                  have HI7 := Lib.hid (HI.out.below (hbw7.mono hB))
                  have HI27 := Lib.hid (HI2.out.below (hbw7.mono hB))
                  obtain ⟨_, o, e, _, hc9⟩ := HI7.out.get (at0_get (p := ln) (by rw [HI.out.length]; exact hln))
                  cases e
                  rw [← HY.out] at hc9
                  obtain ⟨v8, hv8⟩ : ∃ x, x = (if Sq.ini y7 = true then base else Sq.near base (cs.drop (ln + 1)) (ls.drop (ln + 1))) := ⟨_, rfl⟩
                  have hv80 : 0 ≤ v8 := by
                    rw [hv8]
                    split
                    · exact hb0
                    · exact near_nonneg hb0 _ _ (fun l hl => HL0.out l (List.mem_of_mem_drop hl))
                  obtain ⟨e0, e1, e2, e3⟩ := hs7.cells
                  have k3 := hs7.frozen 3
                  obtain ⟨nu, hnu⟩ : ∃ x, x = Sq.near base (cs.drop (ln + 1)) (ls.drop (ln + 1)) := ⟨_, rfl⟩
                  have hN : Calls Try.prog 35 #[.slice (some ⟨b7, o7, none⟩) n c, .slice (some ⟨b8, o8, none⟩) n c2, .int .i64 (ln : Int), .int .i64 1, .int .i64 base] wc (fun e w' => e = .returned (.int .i64 nu) ∧ wc = w') := by
                    rw [hnu]; exact beside_up B _ _ n c c2 ln cs ls base _ HI7.out HI27.out hln
                  have HN := Lib.hid hN
                  have HNU := Lib.hid hnu
                  have HS7 := Lib.hid hs7
                  have HO7 := Lib.hid ho7
                  have HV8 := Lib.hid hv8
                  clear hs7 ho7 hN hnu
                  go_upto_region 26 with (go_at_call 35; refine HN.out.mono ?_; rintro e w9 ⟨rfl, rfl⟩)
                  clear HN
                  rcases hin : Sq.ini y7 with _ | _
                  · rw [hin] at hv8
                    simp only [Bool.false_eq_true, if_false] at hv8
                    rw [← HNU.out] at hv8
                    subst hv8
                    have HIN := Lib.hid hin
                    clear hin
                    go_upto_region 29 with (first
                      | (go_at_call 17; refine (rini_any y7 false HIN.out _).mono ?_; rintro e w9 ⟨rfl, rfl⟩)
                      | (go_at_call 34; refine (way_any x8 v8 hx80 hv80 _).mono ?_; rintro e w9 ⟨rfl, rfl⟩))
                    have hs8 := HS7.out.set3 (Sq.side x8 v8)
                    have ho8 := HO7.out.far (p := ⟨wo.heap.size, 3, none⟩) (by intro a ha; cases ha; show g3 ≠ wo.heap.size; omega) (.int .i64 (Sq.side x8 v8))
                    have hbel8 := hbel7.setCell (p := ⟨wo.heap.size, 3, none⟩) (Nat.le_refl _) (.int .i64 (Sq.side x8 v8))
                    clear hc9 e0 e1 e2 e3 k3 hbel7 hbw7 HS7 HO7 HI7 HI27
                    generalize wc.setCell ⟨wo.heap.size, 3, none⟩ (.int .i64 (Sq.side x8 v8)) = w8 at *
                    obtain ⟨e0, e1, e2, e3⟩ := hs8.cells
                    have HO8 := Lib.hid ho8
                    have HSQ8 := Lib.hid (HSQ.out.below hbel8 (Nat.le_refl _))
                    have h48 : w4.heap.size ≤ w8.heap.size := Nat.le_trans hsx hbel8.size
                    have HONE := Lib.hid (one_is HM.out HTO.out HP0.out HX.out.2.2 HF0.out HLT.out HSV.out HY.out HV8.out)
                    have hsqc := HSQ.out.cap
                    clear ho8 hs8
                    go_wp2_with (first
                      | (at_builtin; refine wpList_append_seq _ rfl (.tmp 156) (.tmp 158) 33 rfl w4.heap.size 39 Try.underlying33 infoSeq Aq t cq (seqCells so) rfl (by exact (HSQ8.out.alloc _).2.1) w8.heap.size 1 (.slice (some ⟨g3, 0, none⟩) (L + 1) cA) x8 (Sq.side x8 sv) (Sq.side x8 v8) rfl (SCell.new _ _ _ _ _).cells.1 rfl (SCell.new _ _ _ _ _).cells.2.1 (SCell.new _ _ _ _ _).cells.2.2.1 (SCell.new _ _ _ _ _).cells.2.2.2 (by omega) (by simp; omega) ?_; intro A10 c10 w10 ho10 hg10 hb10))
                    go_roundw
                    case rel =>
                      have hbn : Below w4.heap.size w4 w10 := ((hbel.trans (hbel8.mono hsx)).alloc h48 _).grown hg10 (by simp; omega) (fun g hgg => (HSQ.out.block g hgg).1)
                      have hpu := Seqs.push (r := SRw.mk g3 cA (Sq.one cs ls mt (Sq.runs cs ls) base q.zs)) (HSQ8.out.alloc (.cells #[.slice (some ⟨g3, 0, none⟩) (L + 1) cA, .int .i64 x8, .int .i64 (Sq.side x8 sv), .int .i64 (Sq.side x8 v8)] 39))
                        (by rw [HONE.out]; show Own _ _ _ _ total.length _ total; rw [HT5.out]; exact (HO8.out.more (by omega)).alloc _)
                        (by rintro a rfl; have := (HSQ.out.block a.block (by simp [Value.ownBlock])).2; show a.block ≠ g3; omega)
                        (by rw [HONE.out]; show World.ownsRow _ _ _ _ _ _ (_ ++ [.slice (some ⟨g3, 0, none⟩) total.length cA, _, _, _]); rw [HT5.out]; exact ho10) hg10 hb10
                      exact ⟨k + 1, t + 1, pre ++ [q], r, A10, c10, _, by go_num, rfl, by simp [HK.out], by simp [HZ.out], hpu, by omega, by rw [← HT.out, List.map_cons, Sq.ofRuns_cons, if_neg (by rw [← HLD.out]; simp)]; simp, hbn⟩
                    case measure => simp [intOf]; omega
                  · rw [hin] at hv8
                    simp only [if_true] at hv8
                    subst hv8
                    have HIN := Lib.hid hin
                    clear hin
                    go_upto_region 29 with (first
                      | (go_at_call 17; refine (rini_any y7 true HIN.out _).mono ?_; rintro e w9 ⟨rfl, rfl⟩)
                      | (go_at_call 34; refine (way_any x8 v8 hx80 hv80 _).mono ?_; rintro e w9 ⟨rfl, rfl⟩))
                    have hs8 := HS7.out.set3 (Sq.side x8 v8)
                    have ho8 := HO7.out.far (p := ⟨wo.heap.size, 3, none⟩) (by intro a ha; cases ha; show g3 ≠ wo.heap.size; omega) (.int .i64 (Sq.side x8 v8))
                    have hbel8 := hbel7.setCell (p := ⟨wo.heap.size, 3, none⟩) (Nat.le_refl _) (.int .i64 (Sq.side x8 v8))
                    clear hc9 e0 e1 e2 e3 k3 hbel7 hbw7 HS7 HO7 HI7 HI27
                    generalize wc.setCell ⟨wo.heap.size, 3, none⟩ (.int .i64 (Sq.side x8 v8)) = w8 at *
                    obtain ⟨e0, e1, e2, e3⟩ := hs8.cells
                    have HO8 := Lib.hid ho8
                    have HSQ8 := Lib.hid (HSQ.out.below hbel8 (Nat.le_refl _))
                    have h48 : w4.heap.size ≤ w8.heap.size := Nat.le_trans hsx hbel8.size
                    have HONE := Lib.hid (one_is HM.out HTO.out HP0.out HX.out.2.2 HF0.out HLT.out HSV.out HY.out HV8.out)
                    have hsqc := HSQ.out.cap
                    clear ho8 hs8
                    go_wp2_with (first
                      | (at_builtin; refine wpList_append_seq _ rfl (.tmp 156) (.tmp 158) 33 rfl w4.heap.size 39 Try.underlying33 infoSeq Aq t cq (seqCells so) rfl (by exact (HSQ8.out.alloc _).2.1) w8.heap.size 1 (.slice (some ⟨g3, 0, none⟩) (L + 1) cA) x8 (Sq.side x8 sv) (Sq.side x8 v8) rfl (SCell.new _ _ _ _ _).cells.1 rfl (SCell.new _ _ _ _ _).cells.2.1 (SCell.new _ _ _ _ _).cells.2.2.1 (SCell.new _ _ _ _ _).cells.2.2.2 (by omega) (by simp; omega) ?_; intro A10 c10 w10 ho10 hg10 hb10))
                    go_roundw
                    case rel =>
                      have hbn : Below w4.heap.size w4 w10 := ((hbel.trans (hbel8.mono hsx)).alloc h48 _).grown hg10 (by simp; omega) (fun g hgg => (HSQ.out.block g hgg).1)
                      have hpu := Seqs.push (r := SRw.mk g3 cA (Sq.one cs ls mt (Sq.runs cs ls) v8 q.zs)) (HSQ8.out.alloc (.cells #[.slice (some ⟨g3, 0, none⟩) (L + 1) cA, .int .i64 x8, .int .i64 (Sq.side x8 sv), .int .i64 (Sq.side x8 v8)] 39))
                        (by rw [HONE.out]; show Own _ _ _ _ total.length _ total; rw [HT5.out]; exact (HO8.out.more (by omega)).alloc _)
                        (by rintro a rfl; have := (HSQ.out.block a.block (by simp [Value.ownBlock])).2; show a.block ≠ g3; omega)
                        (by rw [HONE.out]; show World.ownsRow _ _ _ _ _ _ (_ ++ [.slice (some ⟨g3, 0, none⟩) total.length cA, _, _, _]); rw [HT5.out]; exact ho10) hg10 hb10
                      exact ⟨k + 1, t + 1, pre ++ [q], r, A10, c10, _, by go_num, rfl, by simp [HK.out], by simp [HZ.out], hpu, by omega, by rw [← HT.out, List.map_cons, Sq.ofRuns_cons, if_neg (by rw [← HLD.out]; simp)]; simp, hbn⟩
                    case measure => simp [intOf]; omega

end Go.Proofs.Ytojcphfonbdlpaa.Rf
