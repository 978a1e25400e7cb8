/- The walk of W5: it hands back a list of its own, the classes behind W5, and turns nothing that was there. Condition: at most a million classes. -/
import Derived.Test.YtnjpngecgeofmaaWeakD
namespace Go.Proofs.Ytnjpngecgeofmaa
open Go.RowKit

/-- Up to place k the list is done; the argument is 'pre0 ++ r'. -/
def Pass5 (base : Nat) (e : TypeId) (A : Option Addr) (n c : Nat) (w0 : World) (zs : List Int) (i : Value) (wr : World) : Prop :=
  ∃ (k : Nat) (pre0 pre r : List Int), i = .int .i64 (k : Int) ∧ pre0.length = k ∧ pre.length = k ∧ zs = pre0 ++ r ∧ Own wr base e A n c (pre ++ r) ∧ pre ++ Wk.w5 (Wk.lastEN pre0) r = Wk.w5 false zs ∧ Below base w0 wr

/-- The end of a row of terminators is sought: 'j' of them are seen. -/
def Seek (k : Nat) (r : List Int) (e : Value) : Prop := ∃ (t j : Nat) (rest : List Int), e = .int .i64 (t : Int) ∧ t = k + j ∧ r = List.replicate j 6 ++ rest

/-- The row is written. -/
def Fill (base : Nat) (e : TypeId) (A : Option Addr) (n c : Nat) (w0 : World) (t : Nat) (goal rest : List Int) (q : Value) (wr : World) : Prop :=
  ∃ (u m : Nat) (p : List Int), q = .int .i64 (u : Int) ∧ u + m = t ∧ p.length = u ∧ Own wr base e A n c (p ++ (List.replicate m 6 ++ rest)) ∧ p ++ List.replicate m 4 = goal ∧ Below base w0 wr

theorem Ints.get {w : World} {B n c : Nat} {A : Option Addr} {zs : List Int} (h : Ints w B A n c zs) {k : Nat} {x : Int} (hx : zs[k]? = some x) : ∃ b o, A = some ⟨b, o, none⟩ ∧ b < B ∧ w.cell? ⟨b, o + k, none⟩ = some (.int .i64 x) :=
  h.2.2.2.2 k x hx

theorem get_seek {zs pre0 r rest : List Int} {z : Int} {k t j : Nat} (h1 : zs = pre0 ++ r) (h2 : r = List.replicate j 6 ++ z :: rest) (h3 : pre0.length = k) (h4 : t = k + j) : zs[t]? = some z := by
  subst h1 h2 h3 h4
  rw [List.getElem?_append_right (by omega), List.getElem?_append_right (by simp)]
  simp

theorem lastEN_run (l : List Int) (j : Nat) : Wk.lastEN (l ++ List.replicate (j + 1) 6) = false := by
  simp [Wk.lastEN, List.replicate_succ', ← List.append_assoc]

theorem Pass5.run {base : Nat} {e : TypeId} {A : Option Addr} {n c k t j : Nat} {w0 wr : World} {zs pre0 pre r rest : List Int} {y : Int} (b : Bool)
    (hk0 : pre0.length = k) (hk1 : pre.length = k) (hzs : zs = pre0 ++ y :: r) (hr : y :: r = List.replicate (j + 1) 6 ++ rest) (hh : ∀ z rr, rest = z :: rr → z ≠ 6)
    (ht : pre ++ Wk.w5 (Wk.lastEN pre0) (y :: r) = Wk.w5 false zs) (htj : t = k + (j + 1)) (hb : (Wk.lastEN pre0 || Wk.nextEN rest) = b)
    (hown : Own wr base e A n c ((pre ++ List.replicate (j + 1) (if b then 4 else 6)) ++ rest)) (hbel : Below base w0 wr) : Pass5 base e A n c w0 zs (.int .i64 (t : Int)) wr := by
  refine ⟨t, pre0 ++ List.replicate (j + 1) 6, _, rest, rfl, by simp; omega, by simp; omega, by rw [hzs, hr, List.append_assoc], hown, ?_, hbel⟩
  rw [hr, Wk.w5_run, hb] at ht
  rw [List.append_assoc, Wk.w5_left _ (Wk.lastEN pre0) _ hh]
  exact ht

theorem Pass5.one {base : Nat} {e : TypeId} {A : Option Addr} {n c k : Nat} {w0 wr : World} {zs pre0 pre r : List Int} {y : Int}
    (hk0 : pre0.length = k) (hk1 : pre.length = k) (hzs : zs = pre0 ++ y :: r) (hy : y ≠ 6)
    (ht : pre ++ Wk.w5 (Wk.lastEN pre0) (y :: r) = Wk.w5 false zs) (hown : Own wr base e A n c (pre ++ y :: r)) (hbel : Below base w0 wr) : Pass5 base e A n c w0 zs (.int .i64 ((k : Int) + 1)) wr := by
  refine ⟨k + 1, pre0 ++ [y], pre ++ [y], r, by simp, by simp [hk0], by simp [hk1], by simp [hzs], by simpa using hown, ?_, hbel⟩
  have : Wk.lastEN (pre0 ++ [y]) = decide (y = 4) := by simp [Wk.lastEN]
  rw [this]
  simpa [Wk.w5, hy] using ht

theorem Wk.last_nil : Wk.lastEN [] = false := rfl
theorem Wk.last_snoc (l : List Int) (v : Int) : Wk.lastEN (l ++ [v]) = decide (v = 4) := by simp [Wk.lastEN]

set_option maxHeartbeats 2000000 in
theorem w5_any (B : Nat) (A : Option Addr) (n c : Nat) (zs : List Int) (w : World) (h : Ints w B A n c zs) (hB : B ≤ w.heap.size) (hn : n ≤ 1000000) :
    Calls Try.prog 14 #[.slice A n c] w (RetOwn 3 w n (Wk.w5 false zs)) := by
  go_enter Try.func14, Try.ntmps14
  go_wp2_with (go_at_call 17; refine (clone_any B A n c zs _ h hB hn).mono ?_; rintro e w1 ⟨A', c', rfl, hown, hbel⟩)
  go_loopw [4] (fun i wr => Pass5 w.heap.size 3 A' n c' w zs i wr) (fun i _ => n - (intOf i).toNat)
  case atStart => exact ⟨0, [], [], zs, rfl, rfl, rfl, rfl, hown, rfl, hbel⟩
  case round =>
    clear hown hbel
    obtain ⟨k, pre0, pre, r, rfl, hk0, hk1, hzs, hown, htot, hbel⟩ := hrel
    have hlen := hown.length
    have hcap := h.cap
    rcases r with _ | ⟨y, r⟩
    · have HT := Lib.hid htot
      have hge : n ≤ k := by simp at hlen; omega
      have hle : k ≤ n := by simp at hlen; omega
      clear htot hlen hk0 hk1 hzs h hcap
      go_wp2
      go_ret
      refine ⟨A', c', rfl, ?_, hbel⟩
      have := HT.out
      simp only [Wk.w5, List.append_nil] at this
      rw [← this]
      simpa using hown
    · have hkn : k < n := by simp at hlen; omega
      have HT := Lib.hid htot
      have HL := Lib.hid hlen
      have HK0 := Lib.hid hk0
      have HK1 := Lib.hid hk1
      have HZ := Lib.hid hzs
      have hi := (h.more hB).below hbel
      have HI := Lib.hid hi
      clear htot hlen hk0 hk1 hzs h hi
      go_wp2_with fail
      go_loop [5] (fun e => Seek k (y :: r) e) (fun e => n - (intOf e).toNat)
      case atStart => exact ⟨k, 0, _, rfl, rfl, rfl⟩
      case round =>
        obtain ⟨t, j, rest, rfl, htj, hr⟩ := hrel
        have HTJ := Lib.hid htj
        have HR := Lib.hid hr
        have htn : t + rest.length = n := by
          have h1 := HL.out
          rw [hr] at h1
          have h2 := HK1.out
          simp at h1
          omega
        have hkt : k ≤ t := by omega
        have htle : t ≤ n := by omega
        clear htj hr
        rcases rest with _ | ⟨z, rest⟩
        · have htge : n ≤ t := by simp at htn; omega
          clear htn
          rcases j with _ | j
          · have := HR.out
            simp at this
          · have hjt : k < t := by have := HTJ.out; omega
            rcases List.eq_nil_or_concat pre0 with rfl | ⟨p0, v, hp0⟩
            · have hk00 : k = 0 := by have := HK0.out; simp at this; omega
              have hk000 : k ≤ 0 := by omega
              clear hk00
              go_wp2_with fail
              go_roundw
              case rel => exact Pass5.run false HK0.out HK1.out HZ.out HR.out (fun z rr h => by cases h) HT.out HTJ.out rfl (by have := hown; rw [HR.out] at this; simpa using this) hbel
              case measure => simp [intOf]; omega
            · rw [List.concat_eq_append] at hp0
              subst hp0
              have hk00 : 0 < k := by have := HK0.out; simp at this; omega
              obtain ⟨b1, o1, hA1, hb1, hc1⟩ := HI.out.get (k := k - 1) (x := v) (by rw [HZ.out, List.getElem?_append_left (by rw [HK0.out]; omega)]; have := HK0.out; simp at this; simp [← this])
              subst hA1
              by_cases hv : v = 4
              · subst hv
                go_wp2_with fail
                go_loopw [6] (fun q wq => Fill w.heap.size 3 A' n c' w t (pre ++ List.replicate (j + 1) 4) [] q wq) (fun q _ => n - (intOf q).toNat)
                case atStart => exact ⟨k, j + 1, pre, rfl, by have := HTJ.out; omega, HK1.out, by have := hown; rw [HR.out] at this; simpa using this, rfl, hbel⟩
                case round =>
                  clear hown hbel
                  obtain ⟨u, m, p, rfl, hum, hp, hown2, hgoal, hbel2⟩ := hrel
                  have HUM := Lib.hid hum
                  have HP := Lib.hid hp
                  have HG := Lib.hid hgoal
                  rcases m with _ | m
                  · have hut : u = t := by omega
                    have hle1 : u ≤ t := by omega
                    have hle2 : t ≤ u := by omega
                    clear hum hp hgoal
                    have hown3 : Own wr w.heap.size 3 A' n c' ((pre ++ List.replicate (j + 1) (if true then 4 else 6)) ++ []) := by
                      have h1 := HG.out
                      simp only [List.replicate_zero, List.append_nil] at h1
                      rw [if_pos rfl, ← h1]
                      simpa using hown2
                    clear hown2 hut
                    go_wp2_with fail
                    go_roundw
                    case rel => exact Pass5.run true HK0.out HK1.out HZ.out HR.out (fun z rr h => by cases h) HT.out HTJ.out (by rw [Wk.last_snoc]; rfl) hown3 hbel2
                    case measure => simp [intOf]; omega
                  · have hlt : u < t := by omega
                    clear hum hp hgoal
                    have hown3 : Own wr w.heap.size 3 A' n c' (p ++ 6 :: (List.replicate m 6 ++ [])) := by
                      have := hown2
                      rwa [List.replicate_succ, List.cons_append] at this
                    clear hown2
                    obtain ⟨hk3, g, rfl, hg, hgs, hcg, hfg⟩ := hown3.mid HP.out
                    go_wp2_with fail
                    go_roundw
                    case rel => exact ⟨u + 1, m, p ++ [4], by go_num, by have := HUM.out; omega, by simp [HP.out], by simpa using hown3.put HP.out 4, by have := HG.out; simpa [List.replicate_succ] using this, hbel2.setCell hg _⟩
                    case measure => simp [intOf]; omega
              · have hvb : (v == 4) = false := by simpa using hv
                go_wp2_with fail
                go_roundw
                case rel => exact Pass5.run false HK0.out HK1.out HZ.out HR.out (fun z rr h => by cases h) HT.out HTJ.out (by rw [Wk.last_snoc]; simp [Wk.nextEN, hv]) (by have := hown; rw [HR.out] at this; simpa using this) hbel
                case measure => simp [intOf]; omega
        · have htlt : t < n := by simp at htn; omega
          clear htn
          by_cases hz : z = 6
          · subst hz
            obtain ⟨b, o, rfl, hb, hc⟩ := HI.out.get (k := t) (x := 6) (get_seek HZ.out HR.out HK0.out HTJ.out)
            go_wp2_with fail
            go_round
            case rel => exact ⟨t + 1, j + 1, rest, by go_num, by have := HTJ.out; omega, by rw [HR.out, List.replicate_succ', List.append_assoc]; rfl⟩
            case measure => simp [intOf]; omega
          · obtain ⟨b, o, rfl, hb, hc⟩ := HI.out.get (k := t) (x := z) (get_seek HZ.out HR.out HK0.out HTJ.out)
            have hzb : (z == 6) = false := by simpa using hz
            rcases j with _ | j
            · have hr0 := HR.out
              simp only [List.replicate_zero, List.nil_append, List.cons.injEq] at hr0
              obtain ⟨rfl, rfl⟩ := hr0
              have hkt2 : t ≤ k := by have := HTJ.out; omega
              go_wp2_with fail
              go_roundw
              case rel => exact Pass5.one HK0.out HK1.out HZ.out hz HT.out hown hbel
              case measure => simp [intOf]; omega
            · have hjt : k < t := by have := HTJ.out; omega
              rcases List.eq_nil_or_concat pre0 with rfl | ⟨p0, v, hp0⟩
              · have hk00 : k = 0 := by have := HK0.out; simp at this; omega
                have hk000 : k ≤ 0 := by omega
                clear hk00
                by_cases hz4 : z = 4
                · have hzb4 : (z == 4) = true := by simpa using hz4
                  have HZ4 := Lib.hid hz4
                  clear hz4
                  go_wp2_with fail
                  go_loopw [6] (fun q wq => Fill w.heap.size 3 A' n c' w t (pre ++ List.replicate (j + 1) 4) (z :: rest) q wq) (fun q _ => n - (intOf q).toNat)
                  case atStart => exact ⟨k, j + 1, pre, rfl, by have := HTJ.out; omega, HK1.out, by have := hown; rw [HR.out] at this; simpa using this, rfl, hbel⟩
                  case round =>
                    clear hown hbel
                    obtain ⟨u, m, p, rfl, hum, hp, hown2, hgoal, hbel2⟩ := hrel
                    have HUM := Lib.hid hum
                    have HP := Lib.hid hp
                    have HG := Lib.hid hgoal
                    rcases m with _ | m
                    · have hut : u = t := by omega
                      have hle1 : u ≤ t := by omega
                      have hle2 : t ≤ u := by omega
                      clear hum hp hgoal
                      have hown3 : Own wr w.heap.size 3 A' n c' ((pre ++ List.replicate (j + 1) (if true then 4 else 6)) ++ (z :: rest)) := by
                        have h1 := HG.out
                        simp only [List.replicate_zero, List.append_nil] at h1
                        rw [if_pos rfl, ← h1]
                        simpa using hown2
                      clear hown2 hut
                      go_wp2_with fail
                      go_roundw
                      case rel => exact Pass5.run true HK0.out HK1.out HZ.out HR.out (fun z rr h => by cases h; exact hz) HT.out HTJ.out (by simp [Wk.nextEN, HZ4.out]) hown3 hbel2
                      case measure => simp [intOf]; omega
                    · have hlt : u < t := by omega
                      clear hum hp hgoal
                      have hown3 : Own wr w.heap.size 3 A' n c' (p ++ 6 :: (List.replicate m 6 ++ (z :: rest))) := by
                        have := hown2
                        rwa [List.replicate_succ, List.cons_append] at this
                      clear hown2
                      obtain ⟨hk3, g, rfl, hg, hgs, hcg, hfg⟩ := hown3.mid HP.out
                      go_wp2_with fail
                      go_roundw
                      case rel => exact ⟨u + 1, m, p ++ [4], by go_num, by have := HUM.out; omega, by simp [HP.out], by simpa using hown3.put HP.out 4, by have := HG.out; simpa [List.replicate_succ] using this, hbel2.setCell hg _⟩
                      case measure => simp [intOf]; omega
                · have hzb4 : (z == 4) = false := by simpa using hz4
                  go_wp2_with fail
                  go_roundw
                  case rel => exact Pass5.run false HK0.out HK1.out HZ.out HR.out (fun z rr h => by cases h; exact hz) HT.out HTJ.out (by rw [Wk.last_nil]; simp [Wk.nextEN, hz, hz4]) (by have := hown; rw [HR.out] at this; simpa using this) hbel
                  case measure => simp [intOf]; omega
              · rw [List.concat_eq_append] at hp0
                subst hp0
                have hk00 : 0 < k := by have := HK0.out; simp at this; omega
                obtain ⟨b1, o1, hA1, hb1, hc1⟩ := HI.out.get (k := k - 1) (x := v) (by rw [HZ.out, List.getElem?_append_left (by rw [HK0.out]; omega)]; have := HK0.out; simp at this; simp [← this])
                cases hA1
                by_cases hv : v = 4
                · subst hv
                  go_wp2_with fail
                  go_loopw [6] (fun q wq => Fill w.heap.size 3 A' n c' w t (pre ++ List.replicate (j + 1) 4) (z :: rest) q wq) (fun q _ => n - (intOf q).toNat)
                  case atStart => exact ⟨k, j + 1, pre, rfl, by have := HTJ.out; omega, HK1.out, by have := hown; rw [HR.out] at this; simpa using this, rfl, hbel⟩
                  case round =>
                    clear hown hbel
                    obtain ⟨u, m, p, rfl, hum, hp, hown2, hgoal, hbel2⟩ := hrel
                    have HUM := Lib.hid hum
                    have HP := Lib.hid hp
                    have HG := Lib.hid hgoal
                    rcases m with _ | m
                    · have hut : u = t := by omega
                      have hle1 : u ≤ t := by omega
                      have hle2 : t ≤ u := by omega
                      clear hum hp hgoal
                      have hown3 : Own wr w.heap.size 3 A' n c' ((pre ++ List.replicate (j + 1) (if true then 4 else 6)) ++ (z :: rest)) := by
                        have h1 := HG.out
                        simp only [List.replicate_zero, List.append_nil] at h1
                        rw [if_pos rfl, ← h1]
                        simpa using hown2
                      clear hown2 hut
                      go_wp2_with fail
                      go_roundw
                      case rel => exact Pass5.run true HK0.out HK1.out HZ.out HR.out (fun z rr h => by cases h; exact hz) HT.out HTJ.out (by rw [Wk.last_snoc]; rfl) hown3 hbel2
                      case measure => simp [intOf]; omega
                    · have hlt : u < t := by omega
                      clear hum hp hgoal
                      have hown3 : Own wr w.heap.size 3 A' n c' (p ++ 6 :: (List.replicate m 6 ++ (z :: rest))) := by
                        have := hown2
                        rwa [List.replicate_succ, List.cons_append] at this
                      clear hown2
                      obtain ⟨hk3, g, rfl, hg, hgs, hcg, hfg⟩ := hown3.mid HP.out
                      go_wp2_with fail
                      go_roundw
                      case rel => exact ⟨u + 1, m, p ++ [4], by go_num, by have := HUM.out; omega, by simp [HP.out], by simpa using hown3.put HP.out 4, by have := HG.out; simpa [List.replicate_succ] using this, hbel2.setCell hg _⟩
                      case measure => simp [intOf]; omega
                · have hvb : (v == 4) = false := by simpa using hv
                  by_cases hz4 : z = 4
                  · have hzb4 : (z == 4) = true := by simpa using hz4
                    have HZ4 := Lib.hid hz4
                    clear hz4
                    go_wp2_with fail
                    go_loopw [6] (fun q wq => Fill w.heap.size 3 A' n c' w t (pre ++ List.replicate (j + 1) 4) (z :: rest) q wq) (fun q _ => n - (intOf q).toNat)
                    case atStart => exact ⟨k, j + 1, pre, rfl, by have := HTJ.out; omega, HK1.out, by have := hown; rw [HR.out] at this; simpa using this, rfl, hbel⟩
                    case round =>
                      clear hown hbel
                      obtain ⟨u, m, p, rfl, hum, hp, hown2, hgoal, hbel2⟩ := hrel
                      have HUM := Lib.hid hum
                      have HP := Lib.hid hp
                      have HG := Lib.hid hgoal
                      rcases m with _ | m
                      · have hut : u = t := by omega
                        have hle1 : u ≤ t := by omega
                        have hle2 : t ≤ u := by omega
                        clear hum hp hgoal
                        have hown3 : Own wr w.heap.size 3 A' n c' ((pre ++ List.replicate (j + 1) (if true then 4 else 6)) ++ (z :: rest)) := by
                          have h1 := HG.out
                          simp only [List.replicate_zero, List.append_nil] at h1
                          rw [if_pos rfl, ← h1]
                          simpa using hown2
                        clear hown2 hut
                        go_wp2_with fail
                        go_roundw
                        case rel => exact Pass5.run true HK0.out HK1.out HZ.out HR.out (fun z rr h => by cases h; exact hz) HT.out HTJ.out (by simp [Wk.nextEN, HZ4.out]) hown3 hbel2
                        case measure => simp [intOf]; omega
                      · have hlt : u < t := by omega
                        clear hum hp hgoal
                        have hown3 : Own wr w.heap.size 3 A' n c' (p ++ 6 :: (List.replicate m 6 ++ (z :: rest))) := by
                          have := hown2
                          rwa [List.replicate_succ, List.cons_append] at this
                        clear hown2
                        obtain ⟨hk3, g, rfl, hg, hgs, hcg, hfg⟩ := hown3.mid HP.out
                        go_wp2_with fail
                        go_roundw
                        case rel => exact ⟨u + 1, m, p ++ [4], by go_num, by have := HUM.out; omega, by simp [HP.out], by simpa using hown3.put HP.out 4, by have := HG.out; simpa [List.replicate_succ] using this, hbel2.setCell hg _⟩
                        case measure => simp [intOf]; omega
                  · have hzb4 : (z == 4) = false := by simpa using hz4
                    go_wp2_with fail
                    go_roundw
                    case rel => exact Pass5.run false HK0.out HK1.out HZ.out HR.out (fun z rr h => by cases h; exact hz) HT.out HTJ.out (by rw [Wk.last_snoc]; simp [Wk.nextEN, hz, hz4, hv]) (by have := hown; rw [HR.out] at this; simpa using this) hbel
                    case measure => simp [intOf]; omega

end Go.Proofs.Ytnjpngecgeofmaa
