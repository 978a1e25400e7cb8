/- The walk of the reference's Runs: the level runs as cuts. Condition: two lists of one length, at most a thousand. -/
import Derived.Test.YtojcphfonbdlpaaSeqG
import Derived.BigRegion
namespace Go.Proofs.Ytojcphfonbdlpaa
open Go.RowKit

set_option maxHeartbeats 2000000 in
theorem rcuts_any (B : Nat) (A A2 : Option Addr) (n c c2 : Nat) (cs ls : List Int) (w : World) (h : Ints w B A n c cs) (h2 : Ints w B A2 n c2 ls) (hB : B ≤ w.heap.size) (hn : n ≤ 1000) :
    Calls Try.prog 15 #[.slice A n c, .slice A2 n c2] w (RetCuts w ((Sq.runs cs ls).map cutOf)) := by
  have hnn : ((n : Int) != (n : Int)) = false := by simp
  have hlen : cs.length = ls.length := by rw [h.length, h2.length]
  have hrl : (Sq.runs cs ls).length ≤ n := by
    have h1 := flat_long _ (Sq.runs_ne cs ls)
    rw [Sq.runs_flat hlen] at h1
    have h2 := Sq.keptF_length 0 cs
    have := h.length
    omega
  have hpl : ∀ r ∈ Sq.runs cs ls, ∀ p ∈ r, ∃ j : Nat, p = (j : Int) ∧ j < n := fun r hr p hp => by
    obtain ⟨j, h1, h2⟩ := Sq.keptF_mem 0 cs p (by rw [← Sq.runs_flat hlen]; exact List.mem_flatten.2 ⟨r, hr, hp⟩)
    exact ⟨j, h1, by have := h.length; omega⟩
  have HPL := Lib.hid hpl
  clear hlen hpl
  have HI := Lib.hid h
  have HI2 := Lib.hid h2
  clear h h2
  go_enter Try.func15, Try.ntmps15
  go_wp2_with fail
  refine (rruns_any B A A2 n c c2 cs ls _ HI.out HI2.out hB hn).mono ?_
  rintro e w1 ⟨Ao, co, rs, rfl, hrs, hg, hb1⟩
  obtain ⟨m, hm⟩ : ∃ m, m = (Sq.runs cs ls).length := ⟨_, rfl⟩
  rw [← hm] at hg hrl ⊢
  have hne : ∀ q ∈ rs, q.zs ≠ [] := fun q hq => Sq.runs_ne cs ls q.zs (by rw [← hrs]; exact List.mem_map_of_mem hq)
  have hs1 := hb1.size
  have hgc := hg.cap
  have HG := Lib.hid hg
  have HRS := Lib.hid hrs
  have HNE := Lib.hid hne
  have HM := Lib.hid hm
  clear hg hrs hne hm
  go_wp2_with fail
  go_loopw [5, 7] (fun v i wr => CutsRel w1 rs v i wr) (fun _ i _ => m - (intOf i).toNat)
  case atStart => exact ⟨0, [], rs, none, 0, rfl, rfl, rfl, rfl, Cuts.nil_ _ _, Below.refl _ _⟩
  case round =>
    obtain ⟨k, pre, r, A3, c3, rfl, rfl, hk, hz, ho, hbel⟩ := hrel
    have hs := hbel.size
    have hoc := ho.cap
    rcases r with _ | ⟨q, r⟩
    · have hge : m ≤ k := by have h1 := HM.out; rw [← HRS.out, hz] at h1; simp at h1; omega
      have hle : k ≤ m := by have h1 := HM.out; rw [← HRS.out, hz] at h1; simp at h1; omega
      have hkm : k = m := by omega
      have HO := Lib.hid ho
      have HZ := Lib.hid hz
      have HKM := Lib.hid hkm
      clear hz hk ho hkm
      go_wp2_with fail
      go_ret
      have e1 : (Sq.runs cs ls).map cutOf = pre.map fun q => cutOf q.zs := by rw [← HRS.out, HZ.out]; simp
      have e2 : ((Sq.runs cs ls).map cutOf).length = k := by rw [List.length_map, HKM.out, HM.out]
      exact ⟨A3, c3, by rw [e2]; rfl, by rw [e2, e1]; exact HO.out.more hs1, hb1.trans (hbel.mono hs1)⟩
    · have hlt : k < m := by have h1 := HM.out; rw [← HRS.out, hz] at h1; simp at h1; omega
      have hq : rs[k]? = some q := by rw [hz, ← hk]; simp
      have hgb := HG.out.below hbel (Nat.le_refl _)
      obtain ⟨_, g, rfl, hg1, hg2, hgc2, _⟩ := hgb.at_ hq
      have hoq := (hgb.own hq).ints
      have hqc := hoq.cap
      have hqr : q ∈ rs := List.mem_of_getElem? hq
      obtain ⟨d, xl, hdx⟩ : ∃ d xl, q.zs = d ++ [xl] := by
        rcases List.eq_nil_or_concat q.zs with h0 | ⟨d, x, h0⟩
        · exact absurd h0 (HNE.out q hqr)
        · exact ⟨d, x, by rw [h0]; simp⟩
      obtain ⟨l', hl'⟩ : ∃ l', l' = d.length := ⟨_, rfl⟩
      have hlq : q.zs.length = l' + 1 := by rw [hdx, hl']; simp
      obtain ⟨jl, hjl, hjn⟩ := HPL.out q.zs (by rw [← HRS.out]; exact List.mem_map_of_mem hqr) xl (by rw [hdx]; simp)
      subst hjl
      obtain ⟨x0, hx0⟩ : ∃ x0, x0 = q.zs.headD 0 := ⟨_, rfl⟩
      obtain ⟨bq, oq, e1, _, hcl⟩ := hoq.get (k := l') (x := (jl : Int)) (by rw [hdx, hl']; simp)
      cases e1
      have hh0 : q.zs[0]? = some x0 := by
        rw [hx0]
        cases hqz : q.zs with
        | nil => rw [hqz] at hlq; simp at hlq
        | cons y ys => rfl
      obtain ⟨bq, oq, e1, _, hch⟩ := hoq.get (k := 0) (x := x0) hh0
      cases e1
      simp only [Nat.zero_add, Nat.add_zero] at hcl hch
      rw [hlq] at hgc2 hqc
      have hwr : IntKind.i64.wrap (l' : Int) = (l' : Int) := by rw [IntKind.wrap_i64]; omega
      have hwr2 : IntKind.i64.wrap ((jl : Int) + 1) = (jl : Int) + 1 := by rw [IntKind.wrap_i64]; omega
      have hkm2 : (k : Int) < (m : Int) := by omega
      have hi0 : (l' : Int) < (l' : Int) + 1 := by omega
      have hi1 : (0 : Int) < (l' : Int) + 1 := by omega
      have HZ := Lib.hid hz
      have HK := Lib.hid hk
      have HO := Lib.hid ho
      have HX0 := Lib.hid hx0
      have HDX := Lib.hid hdx
      clear hz hk ho hq hgb hoq hqr hdx hlq hl' hx0 hh0
      go_wp2_with fail
      go_region_law ((refine step_append_cut rfl (.tmp 22) (.tmp 43) 36 rfl Try.underlying36 infoCut w1.heap.size A3 k c3 _ (by rfl) (by exact HO.out.drew.alloc _) wr.heap.size 1 x0 ((jl : Int) + 1) (by rfl) (cut_lit _ _ _ _ (by rfl)).1 (cut_lit _ _ _ _ (by rfl)).2 (by omega) (by simp; omega) ?_; intro A4 c4 w4 ho4 hg4))
      all_goals
        go_wp2_with fail
        go_roundw
        case rel =>
          have hbn : Below w1.heap.size w1 w4 := ((hbel.drew).alloc (by exact hs) _).grown hg4 (by simp; omega) (fun g hgg => (World.ownsRow.lt HO.out.2 g hgg).1)
          exact ⟨k + 1, pre ++ [q], r, A4, c4, by go_num, rfl, by simp [HK.out], by simp [HZ.out], by
            have := ho4
            have e : cutOf q.zs = (x0, (jl : Int) + 1) := by unfold cutOf; rw [← HX0.out, HDX.out]; simp
            simpa [e] using this, hbn⟩
        case measure => simp [intOf]; omega

end Go.Proofs.Ytojcphfonbdlpaa