/- The walk of seqs.Of. Condition: two lists of one length, at most a thousand; levels not below 0. -/
import Derived.Test.YtojcphfonbdlpaaSeqI
import Derived.Deep.LoopGhost
import Derived.Deep.CutRange
import Derived.Deep.DeepCutAuto
import Derived.StillTailTactics
namespace Go.Proofs.Ytojcphfonbdlpaa
open Go.RowKit Go.Maps

theorem at0_get {zs : List Int} {p : Nat} (h : p < zs.length) : zs[p]? = some (Sq.at0 zs (p : Int)) := by
  simp [Sq.at0, List.getD_eq_getElem?_getD, List.getElem?_eq_getElem h]

theorem near_nonneg {base : Int} (hb : 0 ≤ base) : ∀ (cs ls : List Int), (∀ l ∈ ls, 0 ≤ l) → 0 ≤ Sq.near base cs ls
  | [], [], _ => hb
  | [], _ :: _, _ => hb
  | _ :: _, [], _ => hb
  | c :: cs, l :: ls, h => by
    unfold Sq.near
    split
    · exact near_nonneg hb cs ls fun x hx => h x (by simp [hx])
    · exact h l (by simp)
theorem find_in (rs : List (List Int)) (p : Int) : Sq.find rs p = [] ∨ Sq.find rs p ∈ rs := by
  unfold Sq.find
  rcases hf : rs.find? (fun r => r.contains p) with _ | r
  · exact .inl (by rw [hf]; rfl)
  · exact .inr (by rw [hf]; exact List.mem_of_find?_eq_some hf)
theorem chain_in (cs mt : List Int) (rs : List (List Int)) : ∀ (f : Nat) (r : List Int), (r = [] ∨ r ∈ rs) → ∀ p ∈ Sq.chain cs mt rs f r, ∃ q ∈ rs, p ∈ q
  | f, [], _, p, hp => by cases f <;> simp [Sq.chain] at hp
  | 0, a :: r, h, p, hp => ⟨a :: r, by simpa using h, hp⟩
  | f + 1, a :: r, h, p, hp => by
    rw [Sq.chain] at hp
    · rcases List.mem_append.1 hp with hp | hp
      · exact ⟨a :: r, by simpa using h, hp⟩
      · split at hp
        · exact chain_in cs mt rs f _ (find_in rs _) p hp
        · simp at hp
    · simp

theorem one_is {cs ls mt q total : List Int} {rs : List (List Int)} {base x8 sv v8 y7 : Int} {m pn fn ln : Nat} (hm : m = rs.length) (ht : total = Sq.chain cs mt rs m q) (hp : (pn : Int) = q.headD 0) (hx : x8 = Sq.at0 ls (pn : Int)) (hf : (fn : Int) = total.headD 0) (hl : total.getLastD 0 = (ln : Int))
    (hsv : sv = Sq.near base (cs.take fn).reverse (ls.take fn).reverse) (hy : y7 = Sq.at0 cs (ln : Int)) (hv : v8 = if Sq.ini y7 = true then base else Sq.near base (cs.drop (ln + 1)) (ls.drop (ln + 1))) :
    Sq.one cs ls mt rs base q = ⟨total, x8, Sq.side x8 sv, Sq.side x8 v8⟩ := by
  subst hy
  unfold Sq.one
  rw [← hm, ← ht, ← hp, ← hx, ← hf, hl]
  unfold Sq.sosOf Sq.eosOf
  rw [Int.toNat_natCast, Int.toNat_natCast, ← hsv, ← hv]

/-- The map is filled up to a place of a run. -/
def FillRel (w0 : World) (b : Nat) (rs : List (List Int)) (k j : Nat) (q : List Int) (wr : World) : Prop :=
  ∃ (cnt : Nat) (D : DataW Unit), MapIs wr b cnt D ∧ cnt ≤ 1000 * k + j ∧ Knows D rs ((rs.take k).flatten ++ q.take j) ∧ Below b w0 wr

/-- Up to a run the sequences are told. -/
def OfRel (cs ls mt : List Int) (base : Int) (w4 : World) (rs : List Rw) (total : List Sq.Seq) (v i : Value) (wx : World) : Prop :=
  ∃ (k t : Nat) (pre r : List Rw) (A : Option Addr) (c : Nat) (so : List SRw), i = .int .i64 (k : Int) ∧ v = .slice A t c ∧ pre.length = k ∧ rs = pre ++ r ∧ Seqs wx w4.heap.size A t c so ∧ t ≤ k ∧
    so.map SRw.s ++ Sq.ofRuns cs ls mt (Sq.runs cs ls) base (r.map Rw.zs) = total ∧ Below w4.heap.size w4 wx

/-- A sequence is told up to a run; 'g' more runs at most. -/
def InRel (cs ls mt : List Int) (rs : List Rw) (b : Nat) (wo : World) (lv : Int) (total : List Int) (g : Nat) (v : Value) (wx : World) : Prop :=
  ∃ (i mm c lq : Nat) (q : Rw) (A : Option Addr) (ps : List Int), v = .slice (some ⟨q.g, 0, none⟩) lq q.c ∧ lq = q.zs.length ∧ rs[i]? = some q ∧ rs.length ≤ g + i ∧ ps ++ Sq.chain cs mt (Sq.runs cs ls) g q.zs = total ∧
    mm ≤ 1000 * i ∧ SCell wx b (.slice A mm c) lv 0 0 ∧ Own wx (b + 1) 3 A mm c ps ∧ Below b wo wx

set_option maxRecDepth 100000 in
set_option maxHeartbeats 4000000 in
theorem of_any (B : Nat) (A A2 : Option Addr) (n c c2 : Nat) (cs ls : List Int) (base : Int) (w : World) (h : Ints w B A n c cs) (h2 : Ints w B A2 n c2 ls) (hB : B ≤ w.heap.size) (hn : n ≤ 1000) (hb0 : 0 ≤ base) (hl0 : ∀ l ∈ ls, 0 ≤ l) :
    Calls Try.prog 10 #[.slice A n c, .slice A2 n c2, .int .i64 base] w (RetSeqs w (Sq.of cs ls base)) := by
  have hnn : ((n : Int) != (n : Int)) = false := by simp
  have hlen : cs.length = ls.length := by rw [h.length, h2.length]
  have hrl : (Sq.runs cs ls).length ≤ n := by
    have h1 := flat_long _ (Sq.runs_ne cs ls)
    rw [Sq.runs_flat hlen] at h1
    have h2 := Sq.keptF_length 0 cs
    have := h.length
    omega
  have hpl : ∀ r ∈ Sq.runs cs ls, ∀ p ∈ r, ∃ j : Nat, p = (j : Int) ∧ j < n := fun r hr p hp => by
    obtain ⟨j, h1, h2⟩ := Sq.keptF_mem 0 cs p (by rw [← Sq.runs_flat hlen]; exact List.mem_flatten.2 ⟨r, hr, hp⟩)
    exact ⟨j, h1, by have := h.length; omega⟩
  have hql : ∀ r ∈ Sq.runs cs ls, r.length ≤ n := fun r hr => by
    have h1 : (Sq.runs cs ls).flatten.length ≤ n := by rw [Sq.runs_flat hlen]; have := Sq.keptF_length 0 cs; have := h.length; omega
    have h2 := (List.sublist_flatten_of_mem hr).length_le
    omega
  have HPL := Lib.hid hpl
  have HQL := Lib.hid hql
  have HLEN := Lib.hid hlen
  have HI := Lib.hid h
  have HI2 := Lib.hid h2
  have HL0 := Lib.hid hl0
  clear h h2 hlen hpl hql hl0
  have hmm := @run_makeMap Try.prog
  go_enter Try.func10, Try.ntmps10
  go_wp2_with fail
  refine (runs_any B A A2 n c c2 cs ls _ HI.out HI2.out hB hn).mono ?_
  rintro e w1 ⟨Ao, co, rs, rfl, hrs, hg, hb1⟩
  obtain ⟨m, hm⟩ : ∃ m, m = (Sq.runs cs ls).length := ⟨_, rfl⟩
  rw [← hm] at hg hrl ⊢
  have hs1 := hb1.size
  have hgc := hg.cap
  have HG := Lib.hid hg
  have HRS := Lib.hid hrs
  have HM := Lib.hid hm
  clear hg hrs hm
  go_wp2_with fail
  refine (matching_any B A n c cs _ (HI.out.below (hb1.mono hB)) (by omega) (by omega)).mono ?_
  rintro e w2 ⟨Am, cm, rfl, hom, hb2⟩
  have hs2 := hb2.size
  have HOM := Lib.hid hom
  have hmc := hom.cap
  clear hom
  go_wp2_with fail
  have HG2 := Lib.hid (HG.out.below (hb2.mono (Nat.le_refl _)) (Nat.le_refl _))
  have HM2 := Lib.hid (show Below w.heap.size w w2 from hb1.trans (hb2.mono hs1))
  clear HG
  go_loopw [35] (fun i wr => ∃ k : Nat, i = .int .i64 (k : Int) ∧ k ≤ m ∧ FillRel w2 w2.heap.size (Sq.runs cs ls) k 0 [] wr) (fun i _ => m - (intOf i).toNat)
  case atStart => exact ⟨0, rfl, Nat.zero_le _, 0, .map [], World.ownsMap_made _ _ _ _, Nat.le_refl _, by simpa using Knows.nil_ _, (Below.refl _ _).alloc (Nat.le_refl _) _⟩
  case round =>
    obtain ⟨k, rfl, hkm, cnt, D, hmap, hcnt, hkn, hbel⟩ := hrel
    have hs := hbel.size
    by_cases hlt : k < m
    · obtain ⟨q, hq⟩ : ∃ q, rs[k]? = some q := ⟨_, List.getElem?_eq_getElem (by have := HRS.out; have h2 := HM.out; rw [← this] at h2; simp at h2; omega)⟩
      have hqr : (Sq.runs cs ls)[k]? = some q.zs := by rw [← HRS.out]; simp [hq]
      obtain ⟨_, go, rfl, hgo1, hgo2, hgoc, _⟩ := (HG2.out.below hbel (Nat.le_refl _)).at_ hq
      have hoq := (HG2.out.own hq).ints
      have hqc := hoq.cap
      have hqn := HQL.out q.zs (List.mem_of_getElem? hqr)
      obtain ⟨lq, hlq⟩ : ∃ l, l = q.zs.length := ⟨_, rfl⟩
      rw [← hlq] at hgoc hqc hqn hoq
      have HQ := Lib.hid hoq
      have HLQ := Lib.hid hlq
      have HQR := Lib.hid hqr
      clear hoq hlq hqr hq
      go_wp2_with fail
      go_loopw [42] (fun i wr => ∃ j : Nat, i = .int .i64 (j : Int) ∧ j ≤ lq ∧ FillRel w2 w2.heap.size (Sq.runs cs ls) k j q.zs wr) (fun i _ => lq - (intOf i).toNat)
      case atStart => exact ⟨0, rfl, Nat.zero_le _, cnt, D, hmap, hcnt, by simpa using hkn, hbel⟩
      case round =>
        clear hmap hcnt hkn
        obtain ⟨j, rfl, hj, cnt, D, hmap, hcnt, hkn, hbelj⟩ := hrel
        have hsj := hbelj.size
        by_cases hlj : j < lq
        · obtain ⟨p, hp⟩ : ∃ p, q.zs[j]? = some p := ⟨_, List.getElem?_eq_getElem (by rw [← HLQ.out]; exact hlj)⟩
          obtain ⟨b4, o4, e4, _, hcx⟩ := (HQ.out.below hbelj).get hp
          cases e4
          simp only [Nat.zero_add] at hcx
          obtain ⟨pn, hpn, hpnn⟩ := HPL.out q.zs (List.mem_of_getElem? HQR.out) p (List.mem_of_getElem? hp)
          have HP := Lib.hid hp
          have HKN := Lib.hid hkn
          have HMAP := Lib.hid hmap
          clear hp hkn hmap
          subst hpn
          go_wp2_with (first
            | (at_mapUpdate; refine wpList_mapUpdate_own _ rfl _ _ _ 58 rfl 3 3 lawInt Try.underlying58 _ w2.heap.size cnt D rfl HMAP.out (by unfold maxLen; omega) _ _ (.int .i64 (pn : Int)) rfl rfl (keyOf_int_mk Try.underlying3 (WalkArith.wf_i64 (by omega))) (.lit (.int .i64 (k : Int))) [] (plainElem_int Try.underlying3 (WalkArith.wf_i64 (by omega))) ?_; intro w4 hown4 hgrow4))
          go_roundw
          case rel =>
            exact ⟨j + 1, by go_num, by omega, cnt + 1, _, hown4, by omega, by
              have h1 := Knows.put HKN.out (p := (pn : Int)) (j := k) (by rw [HQR.out, Sq.find_of_mem HLEN.out HQR.out (List.mem_of_getElem? HP.out)])
              have h2 : q.zs.take (j + 1) = q.zs.take j ++ [(pn : Int)] := by rw [List.take_add_one, HP.out]; rfl
              rw [h2, ← List.append_assoc]; exact h1, hbelj.grown hgrow4 hbelj.size (fun g hg => by cases hg; exact Nat.le_refl _)⟩
          case measure => simp [intOf]; omega
        · have hjl : j = lq := by omega
          have HKN := Lib.hid hkn
          have HMAP := Lib.hid hmap
          clear hkn hmap
          subst hjl
          go_wp2_with fail
          go_roundw
          case rel =>
            exact ⟨k + 1, by go_num, by omega, cnt, D, HMAP.out, by omega, by
              have h1 := HKN.out
              have h2 : q.zs.take j = q.zs := by rw [HLQ.out]; simp
              rw [h2] at h1
              have h3 : (Sq.runs cs ls).take (k + 1) = (Sq.runs cs ls).take k ++ [q.zs] := by rw [List.take_add_one, HQR.out]; rfl
              rw [h3, List.flatten_append]; simpa using h1, hbelj⟩
          case measure => simp [intOf]; omega
    · have hkm' : k = m := by omega
      have hS : Knows D (Sq.runs cs ls) (Sq.runs cs ls).flatten := by
        have h1 := hkn
        rw [hkm', HM.out, List.take_length] at h1
        simpa using h1
      have HS := Lib.hid hS
      have HMAP := Lib.hid hmap
      have HG4 := Lib.hid (HG2.out.below hbel (Nat.le_refl _))
      have HOM4 := Lib.hid ((HOM.out.below hbel (Nat.le_refl _)).ints)
      have HBW := Lib.hid (show Below w.heap.size w wr from HM2.out.trans (hbel.mono (by omega)))
      have hcap := HI.out.cap
      have hcap2 := HI2.out.cap
      have hlrs : rs.length = m := by rw [HM.out, ← HRS.out, List.length_map]
      have HLRS := Lib.hid hlrs
      have hbmap : w2.heap.size < wr.heap.size := HMAP.out.lt
      clear hkn hmap HOM HG2 HM2 hbel hS hkm' hlrs
      obtain ⟨w4, hw4⟩ : ∃ x, x = wr := ⟨_, rfl⟩
      subst hw4
      obtain ⟨mt, hmt⟩ : ∃ mt, mt = Bd.mt cs := ⟨_, rfl⟩
      rw [← hmt] at HOM4
      have HMT := Lib.hid hmt
      clear hmt
      go_wp2_with fail
      go_loopw [14, 53] (fun v i wx => OfRel cs ls mt base w4 rs (Sq.of cs ls base) v i wx) (fun _ i _ => m - (intOf i).toNat)
      case atStart => exact ⟨0, 0, [], rs, none, 0, [], rfl, rfl, rfl, rfl, Seqs.nil_ _ _, Nat.le_refl _, by rw [HRS.out, HMT.out]; rfl, Below.refl _ _⟩
      case round =>
        obtain ⟨k, t, pre, r, Aq, cq, so, rfl, rfl, hk, hz, hsq, htk, htot, hbel⟩ := hrel
        have hsx := hbel.size
        have hqc := hsq.cap
        rcases r with _ | ⟨q, r⟩
        · have hge : m ≤ k := by have := HLRS.out; rw [hz] at this; simp at this; omega
          have HSQ := Lib.hid hsq
          have HT := Lib.hid htot
          clear hz hk hsq htot
          go_wp2_with fail
          go_ret
          have e1 := HT.out
          have e2 : (Sq.of cs ls base).length = t := by rw [← e1, List.map_nil, Sq.ofRuns]; simp [HSQ.out.length]
          refine ⟨Aq, cq, so, by rw [e2]; rfl, by rw [← e1, List.map_nil, Sq.ofRuns]; simp, ?_, ?_⟩
          · rw [e2]; exact HSQ.out.more HBW.out.size
          · exact HBW.out.trans (hbel.mono HBW.out.size)
        · have hlt : k < m := by have := HLRS.out; rw [hz] at this; simp at this; omega
          have hq : rs[k]? = some q := by rw [hz, ← hk]; simp
          have hqr : (Sq.runs cs ls)[k]? = some q.zs := by rw [← HRS.out]; simp [hq]
          obtain ⟨_, go, rfl, hgo1, hgo2, hgoc, _⟩ := (HG4.out.below hbel (Nat.le_refl _)).at_ hq
          have hoq := (HG4.out.own hq).ints
          have hrc := hoq.cap
          have hqn := HQL.out q.zs (List.mem_of_getElem? hqr)
          have hqne := Sq.runs_ne cs ls q.zs (List.mem_of_getElem? hqr)
          obtain ⟨p0, hp0⟩ : ∃ p0, p0 = q.zs.headD 0 := ⟨_, rfl⟩
          have hq0 : q.zs[0]? = some p0 := by rw [hp0]; revert hqne; cases q.zs <;> simp
          obtain ⟨pn, rfl, hpn⟩ := HPL.out q.zs (List.mem_of_getElem? hqr) p0 (List.mem_of_getElem? hq0)
          obtain ⟨b5, o5, e5, _, hc5⟩ := (hoq.below hbel).get hq0
          cases e5
          simp only [Nat.add_zero] at hc5
          obtain ⟨b6, o6, rfl, hb6, hc6⟩ := (HOM4.out.below hbel).get (at0_get (p := pn) (by rw [HOM4.out.length]; exact hpn))
          obtain ⟨b7, o7, rfl, hb7, hc7⟩ := (HI.out.below ((HBW.out.trans (hbel.mono HBW.out.size)).mono hB)).get (at0_get (p := pn) (by rw [HI.out.length]; exact hpn))
          obtain ⟨b8, o8, rfl, hb8, hc8⟩ := (HI2.out.below ((HBW.out.trans (hbel.mono HBW.out.size)).mono hB)).get (at0_get (p := pn) (by rw [HI2.out.length]; exact hpn))
          have hled : Sq.led cs mt q.zs = (Sq.at0 mt (pn : Int) != -1 && Sq.at0 cs (pn : Int) == 23) := by rw [hp0]; rfl
          obtain ⟨x6, hx6⟩ : ∃ x, x = Sq.at0 mt (pn : Int) := ⟨_, rfl⟩
          obtain ⟨x7, hx7⟩ : ∃ x, x = Sq.at0 cs (pn : Int) := ⟨_, rfl⟩
          obtain ⟨x8, hx8⟩ : ∃ x, x = Sq.at0 ls (pn : Int) := ⟨_, rfl⟩
          rw [← hx6, ← hx7] at hled
          rw [← hx6] at hc6
          rw [← hx7] at hc7
          rw [← hx8] at hc8
          obtain ⟨lq, hlq⟩ : ∃ l, l = q.zs.length := ⟨_, rfl⟩
          rw [← hlq] at hgoc hrc hqn
          have hlq0 : 0 < lq := by rw [hlq]; exact List.length_pos_iff.2 hqne
          obtain ⟨ld, hld⟩ : ∃ ld, ld = Sq.led cs mt q.zs := ⟨_, rfl⟩
          rw [← hld] at hled
          have HZ := Lib.hid hz
          have HK := Lib.hid hk
          have HSQ := Lib.hid hsq
          have HT := Lib.hid htot
          have HQ := Lib.hid hq
          have HQR := Lib.hid hqr
          have HP0 := Lib.hid hp0
          have HQ0 := Lib.hid hq0
          have HX := Lib.hid (And.intro hx6 (And.intro hx7 hx8))
          have HLQ := Lib.hid hlq
          have HLD := Lib.hid hld
          have HLE := Lib.hid hled
          clear hz hk hsq htot hq hqr hp0 hq0 hx6 hx7 hx8 hlq hoq hqne hled hld
          go_upto_region 19 with fail
          go_cut [72] (fun c W => c = .bool ld ∧ W = wr)
          case first =>
            by_cases h6 : x6 = -1
            · subst h6
              have d1 : ((-1 : Int) != -1) = false := by simp
              go_wp2_with fail
              go_meet
              exact ⟨by rw [HLE.out]; rfl, rfl⟩
            · have d1 : (x6 != -1) = true := by simpa using h6
              have H6 := Lib.hid h6
              clear h6
              go_wp2_with fail
              go_meet
              exact ⟨by rw [HLE.out, d1]; rfl, rfl⟩
          case rest =>
            obtain ⟨rfl, rfl⟩ := hcut
            rcases ld with _ | _
            case true =>
              go_wp2_with fail
              go_roundw
              case rel => exact ⟨k + 1, t, pre ++ [q], r, Aq, cq, so, by go_num, rfl, by simp [HK.out], by simp [HZ.out], HSQ.out, by omega, by rw [← HT.out, List.map_cons, Sq.ofRuns_cons, if_pos HLD.out.symm], hbel⟩
              case measure => simp [intOf]; omega
            case false =>
              obtain ⟨wo, hwo⟩ : ∃ x, x = wc := ⟨_, rfl⟩
              subst hwo
              go_wp2_with fail
              clear hc5 hc6 hc7
              obtain ⟨total, htotal⟩ : ∃ x, x = Sq.chain cs mt (Sq.runs cs ls) m q.zs := ⟨_, rfl⟩
              have HTO := Lib.hid htotal
              clear htotal
              go_loopg [16, 18] m (fun gk v _ wx => InRel cs ls mt rs wo.heap.size wo x8 total gk v wx)
              case atStart => exact ⟨k, 0, 0, lq, q, none, [], rfl, HLQ.out, HQ.out, by rw [HLRS.out]; omega, by rw [HTO.out]; rfl, Nat.zero_le _, SCell.new _ _ _ _ _, Own.nil_ _ _ _, (Below.refl _ _).alloc (Nat.le_refl _) _⟩
              case round =>
                clear hgoc hrc hqn hc8 hlq0 hqc hlt
                obtain ⟨i, mm, cA, lq2, q2, Ap, ps, rfl, hlq2, hq2, hgi, hch, hmm2, hsc, hop, hbel2⟩ := hrel
                have hs2x := hbel2.size
                have hoc := hop.cap
                have hbo : ∀ g, (Value.slice Ap mm cA).ownBlock = some g → wo.heap.size + 1 ≤ g := fun g hg => (Own.block hop g hg).1
                have hq2r : (Sq.runs cs ls)[i]? = some q2.zs := by rw [← HRS.out]; simp [hq2]
                have hq2m := List.mem_of_getElem? hq2r
                have him : i < m := by have := (List.getElem?_eq_some_iff.1 hq2).1; rw [HLRS.out] at this; exact this
                have hbw : Below w4.heap.size w4 wr := hbel.trans (hbel2.mono hsx)
                have ho2 := (HG4.out.own hq2).ints
                rw [← hlq2] at ho2
                have hq2n := HQL.out q2.zs hq2m
                rw [← hlq2] at hq2n
                obtain ⟨d, xl, hdx⟩ : ∃ d xl, q2.zs = d ++ [xl] := by
                  rcases List.eq_nil_or_concat q2.zs with h0 | ⟨d, x, h0⟩
                  · exact absurd h0 (Sq.runs_ne cs ls q2.zs hq2m)
                  · exact ⟨d, x, by rw [h0]; simp⟩
                obtain ⟨l', hl'⟩ : ∃ l', l' = d.length := ⟨_, rfl⟩
                have hlq3 : lq2 = l' + 1 := by rw [hlq2, hdx, hl']; simp
                subst hlq3
                obtain ⟨ln, rfl, hln⟩ := HPL.out q2.zs hq2m xl (by rw [hdx]; simp)
                have hlast : q2.zs.getLastD 0 = (ln : Int) := by rw [hdx]; simp
                have hgetl : q2.zs[l']? = some (ln : Int) := by rw [hdx, hl']; simp
                have hq2c := ho2.cap
                have hlt5 := hsc.lt
                have hlen5 : ps.length = mm := hop.length
                obtain ⟨e0, e1, e2, e3⟩ := hsc.cells
                have HOP := Lib.hid hop
                have HSC := Lib.hid hsc
                have HO24 := Lib.hid ho2
                have HO2 := Lib.hid (ho2.below hbw)
                have HCH := Lib.hid hch
                have HQ2 := Lib.hid hq2
                have HQ2R := Lib.hid hq2r
                have HDX := Lib.hid hdx
                have HLA := Lib.hid hlast
                have HGL := Lib.hid hgetl
                have HL' := Lib.hid hl'
                have HLQ2 := Lib.hid hlq2
                have HLEN5 := Lib.hid hlen5
                clear hop hsc ho2 hch hq2 hq2r hdx hlast hgetl hl' hlq2 hq2m e1 e2 e3 hlen5
                go_upto_region 22 with (first
                  | (at_builtin; refine wpList_append_ints _ rfl (.tmp 81) (.tmp 82) 22 rfl (wo.heap.size + 1) 3 Try.underlying22 Try.infoInt Ap mm cA ps rfl HOP.out w4.heap.size (some ⟨q2.g, 0, none⟩) (l' + 1) q2.c q2.zs rfl HO2.out (by omega) (by omega) ?_; intro A3 c3 w3 ho3 hg3 hb3; have hsc3 := HSC.out.grown hg3 (by intro e; have := hbo _ e.symm; omega); obtain ⟨e0, e1, e2, e3⟩ := hsc3.cells; have f0 := hsc3.frozen 0))
                have hs5 := hsc3.set0 (.slice A3 (mm + (l' + 1)) c3)
                have ho5 : Own (w3.setCell ⟨wo.heap.size, 0, none⟩ (.slice A3 (mm + (l' + 1)) c3)) (wo.heap.size + 1) 3 A3 (mm + (l' + 1)) c3 (ps ++ q2.zs) :=
                  ho3.far (by rintro a rfl; have := (Own.block ho3 a.block (by simp [Value.ownBlock])).1; show a.block ≠ wo.heap.size; omega) _
                have hbel3 : Below wo.heap.size wo w3 := hbel2.grown hg3 hs2x (fun g hg => by have := hbo g hg; omega)
                have hbel5 := hbel3.setCell (p := ⟨wo.heap.size, 0, none⟩) (Nat.le_refl _) (.slice A3 (mm + (l' + 1)) c3)
                clear hsc3 ho3 hg3 hb3 hbel3 e0 e1 e2 e3 f0
                generalize w3.setCell ⟨wo.heap.size, 0, none⟩ (.slice A3 (mm + (l' + 1)) c3) = w5 at *
                have hbw5 : Below w4.heap.size w4 w5 := hbel.trans (hbel5.mono hsx)
                have hbww : Below w.heap.size w w5 := HBW.out.trans (hbw5.mono HBW.out.size)
                obtain ⟨_, o, e, _, hcl⟩ := (HO24.out.below hbw5).get HGL.out
                cases e
                simp only [Nat.zero_add] at hcl
                obtain ⟨_, o, e, _, hc9⟩ := (HI.out.below (hbww.mono hB)).get (at0_get (p := ln) (by rw [HI.out.length]; exact hln))
                cases e
                obtain ⟨_, o, e, _, hc10⟩ := (HOM4.out.below hbw5).get (at0_get (p := ln) (by rw [HOM4.out.length]; exact hln))
                cases e
                have hgo : Sq.goes cs mt q2.zs = (Sq.ini (Sq.at0 cs (ln : Int)) && Sq.at0 mt (ln : Int) != -1) := by unfold Sq.goes; rw [HLA.out]
                obtain ⟨y6, hy6⟩ : ∃ x, x = Sq.at0 mt (ln : Int) := ⟨_, rfl⟩
                obtain ⟨y7, hy7⟩ : ∃ x, x = Sq.at0 cs (ln : Int) := ⟨_, rfl⟩
                obtain ⟨gs, hgs⟩ : ∃ x, x = Sq.goes cs mt q2.zs := ⟨_, rfl⟩
                rw [← hgs, ← hy6, ← hy7] at hgo
                rw [← hy6] at hc10
                rw [← hy7] at hc9
                have HY := Lib.hid (And.intro hy6 hy7)
                have HGO := Lib.hid hgo
                have HGS := Lib.hid hgs
                clear hy6 hy7 hgo hgs HO2 hbw
                have hwr : IntKind.i64.wrap (l' : Int) = (l' : Int) := by rw [IntKind.wrap_i64]; omega
                have hi0 : (l' : Int) < (l' : Int) + 1 := by omega
                go_upto_region 23 with (fail)
                go_cut [103] (fun c W => c = .bool (!gs) ∧ W = w5)
                case first =>
                  rcases hin : Sq.ini y7 with _ | _
                  · have HIN := Lib.hid hin
                    clear hin
                    go_wp2_with (go_at_call 29; refine (ini_any y7 false HIN.out _).mono ?_; rintro e w3 ⟨rfl, rfl⟩)
                    go_meet
                    exact ⟨by rw [HGO.out, HIN.out]; rfl, rfl⟩
                  · have HIN := Lib.hid hin
                    clear hin
                    by_cases h6 : y6 = -1
                    · subst h6
                      have d1 : ((-1 : Int) == -1) = true := by simp
                      go_wp2_with (go_at_call 29; refine (ini_any y7 true HIN.out _).mono ?_; rintro e w3 ⟨rfl, rfl⟩)
                      go_meet
                      exact ⟨by rw [HGO.out, HIN.out]; rfl, rfl⟩
                    · have d1 : (y6 == -1) = false := by simpa using h6
                      have d2 : (y6 != -1) = true := by simpa using h6
                      have D2 := Lib.hid d2
                      clear h6 d2
                      go_wp2_with (go_at_call 29; refine (ini_any y7 true HIN.out _).mono ?_; rintro e w3 ⟨rfl, rfl⟩)
                      go_meet
                      exact ⟨by rw [HGO.out, HIN.out, D2.out]; rfl, rfl⟩
                case rest =>
                  obtain ⟨rfl, rfl⟩ := hcut
                  rcases gs with _ | _
                  case true =>
                    obtain ⟨qn, j, f', hgk, hm6, hqn2, hjf, hqmem, hij, hf', hchain⟩ := Sq.chain_on (f := gk) HLEN.out HQ2R.out (by rw [← HM.out, ← HLRS.out]; exact hgi) (by rw [← HMT.out]; exact HGS.out.symm)
                    rw [← HMT.out] at hm6 hchain
                    rw [HLA.out, ← HY.out.1] at hm6
                    subst hm6
                    have hqn3 : qn < n := by have := HI.out.length; omega
                    obtain ⟨q3, hq3, hq3z⟩ : ∃ q3, rs[j]? = some q3 ∧ q3.zs = Sq.find (Sq.runs cs ls) (qn : Int) := by
                      have h1 := hjf
                      rw [← HRS.out, List.getElem?_map] at h1
                      rcases h2 : rs[j]? with _ | q3
                      · rw [h2] at h1; simp at h1
                      · rw [h2] at h1; simp at h1; exact ⟨q3, rfl, by rw [h1, HRS.out]⟩
                    obtain ⟨j2, hat, hjj⟩ := HS.out.2 (qn : Int) (List.mem_flatten.2 ⟨_, List.mem_of_getElem? hjf, hqmem⟩)
                    have hj2 := Sq.run_idx HLEN.out hjj hjf
                    subst hj2
                    obtain ⟨hjm, gg, e, _, _, hcj, _⟩ := (HG4.out.below hbw5 (Nat.le_refl _)).at_ hq3
                    cases e
                    have hmw : MapIs wc w2.heap.size cnt D := HMAP.out.below hbw5 hbmap
                    have HMW := Lib.hid hmw
                    have HAT := Lib.hid hat
                    have HCHN := Lib.hid hchain
                    have HQ3 := Lib.hid (And.intro hq3 hq3z)
                    have HGK := Lib.hid hgk
                    clear hmw hat hchain hjf hqmem hjj hq3 hq3z hgk
                    go_wp2_with (at_lookup; refine wpList_lookup_own_int _ rfl _ _ 58 rfl 3 3 .i64 lawInt Try.underlying58 Try.underlying3 (zeroInt _) w2.heap.size cnt D rfl HMW.out (.int .i64 (qn : Int)) (.int .i64 (qn : Int)) rfl (keyOf_int_mk Try.underlying3 (WalkArith.wf_i64 (by omega))) ?_; intro c hat2 hwc; have hcj2 : c = (j2 : Int) := (by rw [HAT.out] at hat2; simp at hat2; exact hat2.symm); subst hcj2)
                    go_roundg f'
                    case measure => rw [HGK.out]; omega
                    case rel =>
                      exact ⟨j2, mm + (l' + 1), c3, q3.zs.length, q3, A3, ps ++ q2.zs, rfl, rfl, HQ3.out.1, by rw [HLRS.out, HM.out]; exact hf', by
                        rw [← HCH.out, HCHN.out, HQ3.out.2, List.append_assoc], by omega, hs5, ho5, hbel5⟩
                  case false =>
                    have htot5 : ps ++ q2.zs = total := by have h1 := HCH.out; rw [Sq.chain_stop (by rw [HMT.out] at HGS ⊢; exact HGS.out.symm)] at h1; exact h1
                    have hmemt : ∀ p ∈ total, ∃ j : Nat, p = (j : Int) ∧ j < n := fun p hp => by
                      rw [HTO.out] at hp
                      obtain ⟨q9, h1, h2⟩ := chain_in cs mt (Sq.runs cs ls) m q.zs (.inr (List.mem_of_getElem? HQR.out)) p hp
                      exact HPL.out q9 h1 p h2
                    obtain ⟨L, hL⟩ : ∃ L, L = mm + l' := ⟨_, rfl⟩
                    have hL1 : mm + (l' + 1) = L + 1 := by omega
                    rw [hL1] at hs5 ho5
                    rw [htot5] at ho5
                    have htl : total.length = L + 1 := ho5.length
                    have hlastt : total.getLastD 0 = (ln : Int) := by rw [← htot5, HDX.out, ← List.append_assoc]; simp
                    have hgl : total[L]? = some (ln : Int) := by rw [← htot5, HDX.out, ← List.append_assoc, hL, ← HLEN5.out, HL'.out]; simp
                    obtain ⟨f0, hf0⟩ : ∃ f0, f0 = total.headD 0 := ⟨_, rfl⟩
                    have hgf : total[0]? = some f0 := by
                      rw [hf0]
                      cases hz9 : total with
                      | nil => rw [hz9] at htl; simp at htl
                      | cons y ys => rfl
                    obtain ⟨fn, rfl, hfn⟩ := hmemt f0 (List.mem_of_getElem? hgf)
                    obtain ⟨g3, x9, rfl, hg31, hg32, -, -, -⟩ := ho5.at_ (k := 0) (by omega)
                    obtain ⟨b9, o9, e9, _, hcf⟩ := ho5.ints.get hgf
                    cases e9
                    obtain ⟨b9, o9, e9, _, hce⟩ := ho5.ints.get hgl
                    cases e9
                    simp only [Nat.add_zero, Nat.zero_add] at hcf hce
                    have ho5c := ho5.cap
                    have HS5 := Lib.hid hs5
                    have HO5 := Lib.hid ho5
                    have HT5 := Lib.hid htl
                    have HLT := Lib.hid hlastt
                    have HF0 := Lib.hid hf0
                    have hLl : L < 2000000 := by omega
                    have hwrL : IntKind.i64.wrap (L : Int) = (L : Int) := by rw [IntKind.wrap_i64]; omega
                    have hiL : (L : Int) < (L : Int) + 1 := by omega
                    have hiL0 : (0 : Int) < (L : Int) + 1 := by omega
                    obtain ⟨e0, e1, e2, e3⟩ := hs5.cells
                    clear hcl hc10 hs5 ho5 htl hlastt hgl hgf hf0 hmemt htot5 hL1 hL e2 e3 hwr hi0 hgi hmm2
                    go_wp2_with fail
                    go_quiet (fail)
                    have HS6 := Lib.hid (HS5.out.drewN nq)
                    have HO6 := Lib.hid (HO5.out.drewN nq)
                    have hbel6 := below_drewN hbel5 nq
                    have hbw6 := below_drewN hbww nq
                    have hc69 : (wc.drewN nq).cell? ⟨b7, o7 + ln, none⟩ = some (.int .i64 y7) := hc9
                    have g1 : (wc.drewN nq).cell? ⟨wo.heap.size, 1, none⟩ = some (.int .i64 x8) := e1
                    have g2 : (wc.drewN nq).cell? ⟨wo.heap.size, 2, none⟩ = some (.int .i64 0) := HS5.out.cells.2.2.1
                    have k2 : (wc.drewN nq).frozen? ⟨wo.heap.size, 2, none⟩ = false := HS5.out.frozen 2
                    clear hc9 e0 e1 hcf hce hbel5 hbww hbw5
                    generalize wc.drewN nq = w6 at *
                    have HI6 := Lib.hid (HI.out.below (hbw6.mono hB))
                    have HI26 := Lib.hid (HI2.out.below (hbw6.mono hB))
                    obtain ⟨sv, hsv⟩ : ∃ x, x = Sq.near base (cs.take fn).reverse (ls.take fn).reverse := ⟨_, rfl⟩
                    have hsv0 : 0 ≤ sv := by rw [hsv]; exact near_nonneg hb0 _ _ (fun l hl => HL0.out l (by simp at hl; exact List.mem_of_mem_take hl))
                    have hx80 : 0 ≤ x8 := by
                      rw [HX.out.2.2]
                      have h1 := at0_get (zs := ls) (p := pn) (by rw [HI2.out.length]; exact hpn)
                      exact HL0.out _ (List.mem_of_getElem? h1)
                    have HSV := Lib.hid hsv
                    clear hsv
                    have hwo : w.heap.size ≤ wo.heap.size := Nat.le_trans HBW.out.size hsx
                    go_upto_region 26 with (fail)
                    go_cut [] (fun W => SCell W wo.heap.size (.slice (some ⟨g3, 0, none⟩) (L + 1) c3) x8 (Sq.side x8 sv) 0 ∧ Own W (wo.heap.size + 1) 3 (some ⟨g3, 0, none⟩) (L + 1) c3 total ∧ Below wo.heap.size wo W ∧ Below w.heap.size w W)
                    case first =>
                      have hN : Calls Try.prog 31 #[.slice (some ⟨b7, o7, none⟩) n c, .slice (some ⟨b8, o8, none⟩) n c2, .int .i64 (fn : Int), .int .i64 (-1), .int .i64 base] w6.drew (fun e w' => e = .returned (.int .i64 sv) ∧ w6.drew = w') := by
                        rw [HSV.out]; exact next_down B _ _ n c c2 fn cs ls base _ HI6.out.drew HI26.out.drew hfn
                      have HN := Lib.hid hN
                      clear hN
                      go_region_with (first
                        | (go_at_call 31; refine HN.out.mono ?_; rintro e w9 ⟨rfl, rfl⟩)
                        | (go_at_call 30; refine (side_any x8 sv hx80 hsv0 _).mono ?_; rintro e w9 ⟨rfl, rfl⟩))
                      all_goals
                        go_wp2_with fail
                        go_meet
                        exact ⟨(HS6.out.set2 _).drew, (HO6.out.far (by intro a ha; cases ha; show g3 ≠ wo.heap.size; omega) _).drew, (hbel6.setCell (p := ⟨wo.heap.size, 2, none⟩) (Nat.le_refl _) _).drew, (hbw6.setCell (p := ⟨wo.heap.size, 2, none⟩) hwo _).drew⟩
                    case rest =>
                      clear HS6 HO6 HI6 HI26 hbel6 hbw6 hc69 g1 g2 k2
                      obtain ⟨hs7, ho7, hbel7, hbw7⟩ := hcut
                      have HI7 := Lib.hid (HI.out.below (hbw7.mono hB))
                      have HI27 := Lib.hid (HI2.out.below (hbw7.mono hB))
                      obtain ⟨_, o, e, _, hc9⟩ := HI7.out.get (at0_get (p := ln) (by rw [HI.out.length]; exact hln))
                      cases e
                      rw [← HY.out.2] at hc9
                      obtain ⟨v8, hv8⟩ : ∃ x, x = (if Sq.ini y7 = true then base else Sq.near base (cs.drop (ln + 1)) (ls.drop (ln + 1))) := ⟨_, rfl⟩
                      have hv80 : 0 ≤ v8 := by
                        rw [hv8]
                        split
                        · exact hb0
                        · exact near_nonneg hb0 _ _ (fun l hl => HL0.out l (List.mem_of_mem_drop hl))
                      have hcs := HS5.out.cells
                      obtain ⟨e0, e1, e2, e3⟩ := hs7.cells
                      have k3 := hs7.frozen 3
                      have HS7 := Lib.hid hs7
                      have HO7 := Lib.hid ho7
                      clear hs7 ho7 hcs
                      rcases hin : Sq.ini y7 with _ | _
                      · have HV8 := Lib.hid hv8
                        rw [hin] at hv8
                        simp only [Bool.false_eq_true, if_false] at hv8
                        have hN : Calls Try.prog 31 #[.slice (some ⟨b7, o7, none⟩) n c, .slice (some ⟨b8, o8, none⟩) n c2, .int .i64 (ln : Int), .int .i64 1, .int .i64 base] wc (fun e w' => e = .returned (.int .i64 v8) ∧ wc = w') := by
                          rw [hv8]; exact next_up B _ _ n c c2 ln cs ls base _ HI7.out HI27.out hln
                        have HN := Lib.hid hN
                        have HIN := Lib.hid hin
                        clear hN hin hv8
                        go_upto_region 31 with (first
                          | (go_at_call 29; refine (ini_any y7 false HIN.out _).mono ?_; rintro e w9 ⟨rfl, rfl⟩)
                          | (go_at_call 31; refine HN.out.mono ?_; rintro e w9 ⟨rfl, rfl⟩)
                          | (go_at_call 30; refine (side_any x8 v8 hx80 hv80 _).mono ?_; rintro e w9 ⟨rfl, rfl⟩))
                        have hs8 := HS7.out.set3 (Sq.side x8 v8)
                        have ho8 := HO7.out.far (p := ⟨wo.heap.size, 3, none⟩) (by intro a ha; cases ha; show g3 ≠ wo.heap.size; omega) (.int .i64 (Sq.side x8 v8))
                        have hbel8 := hbel7.setCell (p := ⟨wo.heap.size, 3, none⟩) (Nat.le_refl _) (.int .i64 (Sq.side x8 v8))
                        clear hc9 e0 e1 e2 e3 k3 hbel7 hbw7 HS7 HO7 HN HI7 HI27
                        generalize wc.setCell ⟨wo.heap.size, 3, none⟩ (.int .i64 (Sq.side x8 v8)) = w8 at *
                        obtain ⟨e0, e1, e2, e3⟩ := hs8.cells
                        have HO8 := Lib.hid ho8
                        have HSQ8 := Lib.hid (HSQ.out.below hbel8 (Nat.le_refl _))
                        have h48 : w4.heap.size ≤ w8.heap.size := Nat.le_trans hsx hbel8.size
                        have HONE := Lib.hid (one_is HM.out HTO.out HP0.out HX.out.2.2 HF0.out HLT.out HSV.out HY.out.2 HV8.out)
                        have hsqc := HSQ.out.cap
                        clear ho8 hs8
                        go_wp2_with (first
                          | (at_builtin; refine wpList_append_seq _ rfl (.tmp 151) (.tmp 153) 27 rfl w4.heap.size 30 Try.underlying27 infoSeq Aq t cq (seqCells so) rfl (by exact (HSQ8.out.alloc _).2.1) w8.heap.size 1 (.slice (some ⟨g3, 0, none⟩) (L + 1) c3) x8 (Sq.side x8 sv) (Sq.side x8 v8) rfl (SCell.new _ _ _ _ _).cells.1 rfl (SCell.new _ _ _ _ _).cells.2.1 (SCell.new _ _ _ _ _).cells.2.2.1 (SCell.new _ _ _ _ _).cells.2.2.2 (by omega) (by simp; omega) ?_; intro A10 c10 w10 ho10 hg10 hb10))
                        go_roundw
                        case rel =>
                          have hbn : Below w4.heap.size w4 w10 := ((hbel.trans (hbel8.mono hsx)).alloc h48 _).grown hg10 (by simp; omega) (fun g hgg => (HSQ.out.block g hgg).1)
                          have hpu := Seqs.push (r := SRw.mk g3 c3 (Sq.one cs ls mt (Sq.runs cs ls) base q.zs)) (HSQ8.out.alloc (.cells #[.slice (some ⟨g3, 0, none⟩) (L + 1) c3, .int .i64 x8, .int .i64 (Sq.side x8 sv), .int .i64 (Sq.side x8 v8)] 30))
                            (by rw [HONE.out]; show Own _ _ _ _ total.length _ total; rw [HT5.out]; exact (HO8.out.more (by omega)).alloc _)
                            (by rintro a rfl; have := (HSQ.out.block a.block (by simp [Value.ownBlock])).2; show a.block ≠ g3; omega)
                            (by rw [HONE.out]; show World.ownsRow _ _ _ _ _ _ (_ ++ [.slice (some ⟨g3, 0, none⟩) total.length c3, _, _, _]); rw [HT5.out]; exact ho10) hg10 hb10
                          exact ⟨k + 1, t + 1, pre ++ [q], r, A10, c10, _, by go_num, rfl, by simp [HK.out], by simp [HZ.out], hpu, by omega, by rw [← HT.out, List.map_cons, Sq.ofRuns_cons, if_neg (by rw [← HLD.out]; simp)]; simp, hbn⟩
                        case measure => simp [intOf]; omega
                      · have HV8 := Lib.hid hv8
                        rw [hin] at hv8
                        simp only [if_true] at hv8
                        subst hv8
                        have HIN := Lib.hid hin
                        clear hin
                        have HN := Lib.hid hv80
                        go_upto_region 31 with (first
                          | (go_at_call 29; refine (ini_any y7 true HIN.out _).mono ?_; rintro e w9 ⟨rfl, rfl⟩)
                          | (go_at_call 30; refine (side_any x8 v8 hx80 hv80 _).mono ?_; rintro e w9 ⟨rfl, rfl⟩))
                        have hs8 := HS7.out.set3 (Sq.side x8 v8)
                        have ho8 := HO7.out.far (p := ⟨wo.heap.size, 3, none⟩) (by intro a ha; cases ha; show g3 ≠ wo.heap.size; omega) (.int .i64 (Sq.side x8 v8))
                        have hbel8 := hbel7.setCell (p := ⟨wo.heap.size, 3, none⟩) (Nat.le_refl _) (.int .i64 (Sq.side x8 v8))
                        clear hc9 e0 e1 e2 e3 k3 hbel7 hbw7 HS7 HO7 HN HI7 HI27
                        generalize wc.setCell ⟨wo.heap.size, 3, none⟩ (.int .i64 (Sq.side x8 v8)) = w8 at *
                        obtain ⟨e0, e1, e2, e3⟩ := hs8.cells
                        have HO8 := Lib.hid ho8
                        have HSQ8 := Lib.hid (HSQ.out.below hbel8 (Nat.le_refl _))
                        have h48 : w4.heap.size ≤ w8.heap.size := Nat.le_trans hsx hbel8.size
                        have HONE := Lib.hid (one_is HM.out HTO.out HP0.out HX.out.2.2 HF0.out HLT.out HSV.out HY.out.2 HV8.out)
                        have hsqc := HSQ.out.cap
                        clear ho8 hs8
                        go_wp2_with (first
                          | (at_builtin; refine wpList_append_seq _ rfl (.tmp 151) (.tmp 153) 27 rfl w4.heap.size 30 Try.underlying27 infoSeq Aq t cq (seqCells so) rfl (by exact (HSQ8.out.alloc _).2.1) w8.heap.size 1 (.slice (some ⟨g3, 0, none⟩) (L + 1) c3) x8 (Sq.side x8 sv) (Sq.side x8 v8) rfl (SCell.new _ _ _ _ _).cells.1 rfl (SCell.new _ _ _ _ _).cells.2.1 (SCell.new _ _ _ _ _).cells.2.2.1 (SCell.new _ _ _ _ _).cells.2.2.2 (by omega) (by simp; omega) ?_; intro A10 c10 w10 ho10 hg10 hb10))
                        go_roundw
                        case rel =>
                          have hbn : Below w4.heap.size w4 w10 := ((hbel.trans (hbel8.mono hsx)).alloc h48 _).grown hg10 (by simp; omega) (fun g hgg => (HSQ.out.block g hgg).1)
                          have hpu := Seqs.push (r := SRw.mk g3 c3 (Sq.one cs ls mt (Sq.runs cs ls) v8 q.zs)) (HSQ8.out.alloc (.cells #[.slice (some ⟨g3, 0, none⟩) (L + 1) c3, .int .i64 x8, .int .i64 (Sq.side x8 sv), .int .i64 (Sq.side x8 v8)] 30))
                            (by rw [HONE.out]; show Own _ _ _ _ total.length _ total; rw [HT5.out]; exact (HO8.out.more (by omega)).alloc _)
                            (by rintro a rfl; have := (HSQ.out.block a.block (by simp [Value.ownBlock])).2; show a.block ≠ g3; omega)
                            (by rw [HONE.out]; show World.ownsRow _ _ _ _ _ _ (_ ++ [.slice (some ⟨g3, 0, none⟩) total.length c3, _, _, _]); rw [HT5.out]; exact ho10) hg10 hb10
                          exact ⟨k + 1, t + 1, pre ++ [q], r, A10, c10, _, by go_num, rfl, by simp [HK.out], by simp [HZ.out], hpu, by omega, by rw [← HT.out, List.map_cons, Sq.ofRuns_cons, if_neg (by rw [← HLD.out]; simp)]; simp, hbn⟩
                        case measure => simp [intOf]; omega

end Go.Proofs.Ytojcphfonbdlpaa
