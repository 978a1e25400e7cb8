/- The walks of bare. Condition: the font and the subtable read as their shapes. Printed by wip/tools/g27f.py. -/
import Derived.Test.YtbjeflblhjfagaaFontD
import Derived.Test.YtbjeflblhjfagaaMid
namespace Go.Proofs.Ytbjeflblhjfagaa
open Go.RowKit

set_option maxRecDepth 100000 in
set_option maxHeartbeats 4000000 in
theorem bare_any (ki : Int) (B : Nat) (s : Sb) (w : World) (h : SbOk w B s) :
    Calls Try.prog 68 #[.int .i64 ki, .agg #[.slice s.co.A s.co.n s.co.c, .slice s.tt.A s.tt.n s.tt.c, .slice s.li.A s.li.n s.li.c, .slice s.ba.A s.ba.n s.ba.c, .slice s.inn.A s.inn.n s.inn.c, .slice s.ah.A s.ah.n s.ah.c, .slice s.ne.A s.ne.n s.ne.c, .slice s.va.A s.va.n s.va.c, .slice s.pr.A s.pr.n s.pr.c, .slice s.cu.A s.cu.n s.cu.c, .slice s.ma.A s.ma.n s.ma.c, .slice s.ho.A s.ho.n s.ho.c]] w (RetB w fun _ => True) := by
  have HCAPco := Lib.hid h.co.cap
  have HCAPtt := Lib.hid h.tt.cap
  have HCAPli := Lib.hid h.li.cap
  have HCAPba := Lib.hid h.ba.cap
  have HCAPinn := Lib.hid h.inn.cap
  have HCAPah := Lib.hid h.ah.cap
  have HCAPne := Lib.hid h.ne.cap
  have HCAPva := Lib.hid h.va.cap
  have HCAPpr := Lib.hid h.pr.cap
  have HCAPcu := Lib.hid h.cu.cap
  have HCAPma := Lib.hid h.ma.cap
  have HCAPho := Lib.hid h.ho.cap
  obtain ⟨w1, hw1⟩ : ∃ z, z = w.alloc (.cells #[.slice s.co.A s.co.n s.co.c, .slice s.tt.A s.tt.n s.tt.c, .slice s.li.A s.li.n s.li.c, .slice s.ba.A s.ba.n s.ba.c, .slice s.inn.A s.inn.n s.inn.c, .slice s.ah.A s.ah.n s.ah.c, .slice s.ne.A s.ne.n s.ne.c, .slice s.va.A s.va.n s.va.c, .slice s.pr.A s.pr.n s.pr.c, .slice s.cu.A s.cu.n s.cu.c, .slice s.ma.A s.ma.n s.ma.c, .slice s.ho.A s.ho.n s.ho.c] 62) := ⟨_, rfl⟩
  have hb1 : Below w.heap.size w w1 := by rw [hw1]; exact (Below.refl _ _).alloc (Nat.le_refl _) _
  have hsb : SBox w1 w.heap.size s := by rw [hw1]; exact heap_alloc_new _ _
  obtain ⟨e0, e1, e2, e3, e4, e5, e6, e7, e8, e9, e10, e11⟩ := hsb.cells
  have HW1 := Lib.hid hw1
  have HE0 := Lib.hid e0
  have HE1 := Lib.hid e1
  have HE2 := Lib.hid e2
  have HE3 := Lib.hid e3
  have HE4 := Lib.hid e4
  have HE5 := Lib.hid e5
  have HE6 := Lib.hid e6
  have HE7 := Lib.hid e7
  have HE8 := Lib.hid e8
  have HE9 := Lib.hid e9
  have HE10 := Lib.hid e10
  have HE11 := Lib.hid e11
  clear hw1 hsb h e0 e1 e2 e3 e4 e5 e6 e7 e8 e9 e10 e11
  go_enter Try.func68, Try.ntmps68
  go_upto_region 1 with (fail)
  rw [← HW1.out]
  go_cut [5] (fun v W => (∃ t : Bool, v = .bool t) ∧ W = w1)
  case first =>
    as_aux_lemma =>
      obtain ⟨c1, hc1⟩ : ∃ c : Bool, (ki == 1) = c := ⟨_, rfl⟩
      obtain ⟨c2, hc2⟩ : ∃ c : Bool, (ki == 2) = c := ⟨_, rfl⟩
      obtain ⟨c5, hc5⟩ : ∃ c : Bool, (ki == 5) = c := ⟨_, rfl⟩
      obtain ⟨c6, hc6⟩ : ∃ c : Bool, (ki == 6) = c := ⟨_, rfl⟩
      obtain ⟨c3, hc3⟩ : ∃ c : Bool, (ki == 3) = c := ⟨_, rfl⟩
      go_wp2_with fail
      all_goals
        try simp only [Bool.not_eq_true] at *
        subst_vars
        go_meet
        exact ⟨⟨_, rfl⟩, rfl⟩
  obtain ⟨⟨t5, rfl⟩, hwc⟩ := hcut
  have hwd := hwc.symm
  subst hwd
  clear hwc
  go_upto_region 2 with (fail)
  go_cut [6] (fun v W => (∃ t : Bool, v = .bool t) ∧ W = w1)
  case first =>
    as_aux_lemma =>
      obtain ⟨c1, hc1⟩ : ∃ c : Bool, (ki == 1) = c := ⟨_, rfl⟩
      obtain ⟨c2, hc2⟩ : ∃ c : Bool, (ki == 2) = c := ⟨_, rfl⟩
      obtain ⟨c5, hc5⟩ : ∃ c : Bool, (ki == 5) = c := ⟨_, rfl⟩
      go_wp2_with fail
      all_goals
        try simp only [Bool.not_eq_true] at *
        subst_vars
        go_meet
        exact ⟨⟨_, rfl⟩, rfl⟩
  obtain ⟨⟨t6, rfl⟩, hwc⟩ := hcut
  have hwd := hwc.symm
  subst hwd
  clear hwc
  go_upto_region 3 with (fail)
  go_cut [7] (fun v W => (∃ t : Bool, v = .bool t) ∧ W = w1)
  case first =>
    as_aux_lemma =>
      obtain ⟨c4, hc4⟩ : ∃ c : Bool, (ki == 4) = c := ⟨_, rfl⟩
      obtain ⟨c12, hc12⟩ : ∃ c : Bool, (ki == 12) = c := ⟨_, rfl⟩
      go_wp2_with fail
      all_goals
        try simp only [Bool.not_eq_true] at *
        subst_vars
        go_meet
        exact ⟨⟨_, rfl⟩, rfl⟩
  obtain ⟨⟨t7, rfl⟩, hwc⟩ := hcut
  have hwd := hwc.symm
  subst hwd
  clear hwc
  go_upto_region 4 with (fail)
  go_cut [8] (fun v W => (∃ t : Bool, v = .bool t) ∧ W = w1)
  case first =>
    as_aux_lemma =>
      obtain ⟨c9, hc9⟩ : ∃ c : Bool, (ki == 9) = c := ⟨_, rfl⟩
      obtain ⟨c10, hc10⟩ : ∃ c : Bool, (ki == 10) = c := ⟨_, rfl⟩
      obtain ⟨c11, hc11⟩ : ∃ c : Bool, (ki == 11) = c := ⟨_, rfl⟩
      go_wp2_with fail
      all_goals
        try simp only [Bool.not_eq_true] at *
        subst_vars
        go_meet
        exact ⟨⟨_, rfl⟩, rfl⟩
  obtain ⟨⟨t8, rfl⟩, hwc⟩ := hcut
  have hwd := hwc.symm
  subst hwd
  clear hwc
  go_upto_region 5 with (fail)
  go_cut [94] (fun v W => (∃ t : Bool, v = .bool t) ∧ W = w1)
  case first =>
    as_aux_lemma =>
      refine wp_region_lit ?_
      have e0 := HE0.out
      have hcapco := HCAPco.out
      have e1 := HE1.out
      have hcaptt := HCAPtt.out
      have e2 := HE2.out
      have hcapli := HCAPli.out
      have e4 := HE4.out
      have hcapinn := HCAPinn.out
      have e6 := HE6.out
      have hcapne := HCAPne.out
      obtain ⟨c3, hd3⟩ : ∃ c : Bool, (ki != 3) = c := ⟨_, rfl⟩
      obtain ⟨bco, hbco⟩ : ∃ c : Bool, decide ((0 : Int) < (s.co.n : Int)) = c := ⟨_, rfl⟩
      have hnco : decide (0 < s.co.n) = bco := by rw [← hbco]; simp
      obtain ⟨btt, hbtt⟩ : ∃ c : Bool, decide ((0 : Int) < (s.tt.n : Int)) = c := ⟨_, rfl⟩
      have hntt : decide (0 < s.tt.n) = btt := by rw [← hbtt]; simp
      obtain ⟨bli, hbli⟩ : ∃ c : Bool, decide ((0 : Int) < (s.li.n : Int)) = c := ⟨_, rfl⟩
      have hnli : decide (0 < s.li.n) = bli := by rw [← hbli]; simp
      obtain ⟨u0, hu0⟩ : ∃ z : Int, IntKind.i64.wrap ((s.inn.n : Int) + (s.ne.n : Int)) = z := ⟨_, rfl⟩
      obtain ⟨v0, hv0⟩ : ∃ c : Bool, decide ((0 : Int) < u0) = c := ⟨_, rfl⟩
      refine wpList_mid (fun a a' => ∃ (t : Bool) (x53 x54 x55 x56 x57 x58 x59 x60 : Value), a' = (((((((((a).put (some 53) x53).put (some 54) x54).put (some 55) x55).put (some 56) x56).put (some 57) x57).put (some 58) x58).put (some 59) x59).put (some 60) x60).put (some 61) (.bool t)) 9 ?_ ?_
      · simp only [List.take_succ_cons, List.take_zero]
        go_wp2_with fail
        all_goals
          refine Mid.intro ?_
          try simp only [Bool.not_eq_true] at *
          subst_vars
          try simp only [Act.put, List.setIfInBounds_toArray, List.set_cons_zero, List.set_cons_succ]
          first
            | exact ⟨⟨_, _, _, _, _, _, _, _, _, rfl⟩, rfl⟩
            | exact ⟨⟨_, _, _, _, _, _, _, _, _, rfl⟩, trivial⟩
      rintro _ ⟨t61, x53, x54, x55, x56, x57, x58, x59, x60, rfl⟩
      simp only [Act.put, List.setIfInBounds_toArray, List.set_cons_zero, List.set_cons_succ, List.drop_succ_cons, List.drop_zero]
      refine wpList_mid (fun a a' => ∃ (t : Bool) (x62 x63 x64 x65 x66 x67 x68 x69 x70 : Value), a' = ((((((((((a).put (some 62) x62).put (some 63) x63).put (some 64) x64).put (some 65) x65).put (some 66) x66).put (some 67) x67).put (some 68) x68).put (some 69) x69).put (some 70) x70).put (some 71) (.bool t)) 10 ?_ ?_
      · simp only [List.take_succ_cons, List.take_zero]
        go_wp2_with fail
        all_goals
          refine Mid.intro ?_
          try simp only [Bool.not_eq_true] at *
          subst_vars
          try simp only [Act.put, List.setIfInBounds_toArray, List.set_cons_zero, List.set_cons_succ]
          first
            | exact ⟨⟨_, _, _, _, _, _, _, _, _, _, rfl⟩, rfl⟩
            | exact ⟨⟨_, _, _, _, _, _, _, _, _, _, rfl⟩, trivial⟩
      rintro _ ⟨t71, x62, x63, x64, x65, x66, x67, x68, x69, x70, rfl⟩
      simp only [Act.put, List.setIfInBounds_toArray, List.set_cons_zero, List.set_cons_succ, List.drop_succ_cons, List.drop_zero]
      refine wpList_mid (fun a a' => ∃ (t : Bool) (x72 x73 x74 x75 x76 x77 x78 x79 x80 : Value), a' = ((((((((((a).put (some 72) x72).put (some 73) x73).put (some 74) x74).put (some 75) x75).put (some 76) x76).put (some 77) x77).put (some 78) x78).put (some 79) x79).put (some 80) x80).put (some 81) (.bool t)) 10 ?_ ?_
      · simp only [List.take_succ_cons, List.take_zero]
        go_wp2_with fail
        all_goals
          refine Mid.intro ?_
          try simp only [Bool.not_eq_true] at *
          subst_vars
          try simp only [Act.put, List.setIfInBounds_toArray, List.set_cons_zero, List.set_cons_succ]
          first
            | exact ⟨⟨_, _, _, _, _, _, _, _, _, _, rfl⟩, rfl⟩
            | exact ⟨⟨_, _, _, _, _, _, _, _, _, _, rfl⟩, trivial⟩
      rintro _ ⟨t81, x72, x73, x74, x75, x76, x77, x78, x79, x80, rfl⟩
      simp only [Act.put, List.setIfInBounds_toArray, List.set_cons_zero, List.set_cons_succ, List.drop_succ_cons, List.drop_zero]
      go_wp2_with fail
      all_goals
        try simp only [Bool.not_eq_true] at *
        subst_vars
        go_meet
        exact ⟨⟨_, rfl⟩, rfl⟩
  obtain ⟨⟨t94, rfl⟩, hwc⟩ := hcut
  have hwd := hwc.symm
  subst hwd
  clear hwc
  rcases t94 with _ | _
  rotate_left
  · go_wp2_with fail
    go_ret
    exact ⟨_, rfl, trivial, hb1⟩
  go_upto_region 7 with (fail)
  go_cut [130] (fun v W => (∃ t : Bool, v = .bool t) ∧ W = w1)
  case first =>
    as_aux_lemma =>
      refine wp_region_lit ?_
      have e3 := HE3.out
      have hcapba := HCAPba.out
      have e5 := HE5.out
      have hcapah := HCAPah.out
      have e7 := HE7.out
      have hcapva := HCAPva.out
      have e8 := HE8.out
      have hcappr := HCAPpr.out
      obtain ⟨c5, hd5⟩ : ∃ c : Bool, (ki != 5) = c := ⟨_, rfl⟩
      obtain ⟨c6, hd6⟩ : ∃ c : Bool, (ki != 6) = c := ⟨_, rfl⟩
      obtain ⟨c7, hd7⟩ : ∃ c : Bool, (ki != 7) = c := ⟨_, rfl⟩
      obtain ⟨bva, hbva⟩ : ∃ c : Bool, decide ((0 : Int) < (s.va.n : Int)) = c := ⟨_, rfl⟩
      have hnva : decide (0 < s.va.n) = bva := by rw [← hbva]; simp
      obtain ⟨bpr, hbpr⟩ : ∃ c : Bool, decide ((0 : Int) < (s.pr.n : Int)) = c := ⟨_, rfl⟩
      have hnpr : decide (0 < s.pr.n) = bpr := by rw [← hbpr]; simp
      obtain ⟨u0, hu0⟩ : ∃ z : Int, IntKind.i64.wrap ((s.ba.n : Int) + (s.ah.n : Int)) = z := ⟨_, rfl⟩
      obtain ⟨v0, hv0⟩ : ∃ c : Bool, decide ((0 : Int) < u0) = c := ⟨_, rfl⟩
      refine wpList_mid (fun a a' => ∃ (t : Bool) (x95 x96 x97 x98 x99 x100 x101 x102 x103 x104 x105 x106 x107 x108 x109 x110 : Value), a' = (((((((((((((((((a).put (some 95) x95).put (some 96) x96).put (some 97) x97).put (some 98) x98).put (some 99) x99).put (some 100) x100).put (some 101) x101).put (some 102) x102).put (some 103) x103).put (some 104) x104).put (some 105) x105).put (some 106) x106).put (some 107) x107).put (some 108) x108).put (some 109) x109).put (some 110) x110).put (some 111) (.bool t)) 17 ?_ ?_
      · simp only [List.take_succ_cons, List.take_zero]
        go_wp2_with fail
        all_goals
          refine Mid.intro ?_
          try simp only [Bool.not_eq_true] at *
          subst_vars
          try simp only [Act.put, List.setIfInBounds_toArray, List.set_cons_zero, List.set_cons_succ]
          first
            | exact ⟨⟨_, _, _, _, _, _, _, _, _, _, _, _, _, _, _, _, _, rfl⟩, rfl⟩
            | exact ⟨⟨_, _, _, _, _, _, _, _, _, _, _, _, _, _, _, _, _, rfl⟩, trivial⟩
      rintro _ ⟨t111, x95, x96, x97, x98, x99, x100, x101, x102, x103, x104, x105, x106, x107, x108, x109, x110, rfl⟩
      simp only [Act.put, List.setIfInBounds_toArray, List.set_cons_zero, List.set_cons_succ, List.drop_succ_cons, List.drop_zero]
      refine wpList_mid (fun a a' => ∃ (t : Bool) (x112 x113 x114 x115 x116 x117 x118 x119 x120 : Value), a' = ((((((((((a).put (some 112) x112).put (some 113) x113).put (some 114) x114).put (some 115) x115).put (some 116) x116).put (some 117) x117).put (some 118) x118).put (some 119) x119).put (some 120) x120).put (some 121) (.bool t)) 10 ?_ ?_
      · simp only [List.take_succ_cons, List.take_zero]
        go_wp2_with fail
        all_goals
          refine Mid.intro ?_
          try simp only [Bool.not_eq_true] at *
          subst_vars
          try simp only [Act.put, List.setIfInBounds_toArray, List.set_cons_zero, List.set_cons_succ]
          first
            | exact ⟨⟨_, _, _, _, _, _, _, _, _, _, rfl⟩, rfl⟩
            | exact ⟨⟨_, _, _, _, _, _, _, _, _, _, rfl⟩, trivial⟩
      rintro _ ⟨t121, x112, x113, x114, x115, x116, x117, x118, x119, x120, rfl⟩
      simp only [Act.put, List.setIfInBounds_toArray, List.set_cons_zero, List.set_cons_succ, List.drop_succ_cons, List.drop_zero]
      go_wp2_with fail
      all_goals
        try simp only [Bool.not_eq_true] at *
        subst_vars
        go_meet
        exact ⟨⟨_, rfl⟩, rfl⟩
  obtain ⟨⟨t130, rfl⟩, hwc⟩ := hcut
  have hwd := hwc.symm
  subst hwd
  clear hwc
  rcases t130 with _ | _
  rotate_left
  · go_wp2_with fail
    go_ret
    exact ⟨_, rfl, trivial, hb1⟩
  go_upto_region 9 with (fail)
  have e9 := HE9.out
  have hcapcu := HCAPcu.out
  have e10 := HE10.out
  have hcapma := HCAPma.out
  have e11 := HE11.out
  have hcapho := HCAPho.out
  obtain ⟨c8, hc8⟩ : ∃ c : Bool, (ki == 8) = c := ⟨_, rfl⟩
  obtain ⟨zcu, hzcu⟩ : ∃ c : Bool, ((s.cu.n : Int) == 0) = c := ⟨_, rfl⟩
  have hzncu : (s.cu.n == 0) = zcu := by rw [← hzcu]; simp [BEq.beq]
  obtain ⟨u0, hu0⟩ : ∃ z : Int, IntKind.i64.wrap ((s.ma.n : Int) + (s.ho.n : Int)) = z := ⟨_, rfl⟩
  obtain ⟨v0, hv0⟩ : ∃ c : Bool, (u0 == 0) = c := ⟨_, rfl⟩
  refine wp_region_lit ?_
  refine wpList_mid (fun a a' => ∃ (t : Bool) (x131 x132 x133 x134 x135 x136 x137 x138 : Value), a' = (((((((((a).put (some 131) x131).put (some 132) x132).put (some 133) x133).put (some 134) x134).put (some 135) x135).put (some 136) x136).put (some 137) x137).put (some 138) x138).put (some 139) (.bool t)) 9 ?_ ?_
  · simp only [List.take_succ_cons, List.take_zero]
    go_wp2_with fail
    all_goals
      refine Mid.intro ?_
      try simp only [Bool.not_eq_true] at *
      subst_vars
      try simp only [Act.put, List.setIfInBounds_toArray, List.set_cons_zero, List.set_cons_succ]
      first
        | exact ⟨⟨_, _, _, _, _, _, _, _, _, rfl⟩, rfl⟩
        | exact ⟨⟨_, _, _, _, _, _, _, _, _, rfl⟩, trivial⟩
  rintro _ ⟨t139, x131, x132, x133, x134, x135, x136, x137, x138, rfl⟩
  simp only [Act.put, List.setIfInBounds_toArray, List.set_cons_zero, List.set_cons_succ, List.drop_succ_cons, List.drop_zero]
  go_wp2_with fail
  all_goals
    go_ret
    exact ⟨_, rfl, trivial, hb1⟩

end Go.Proofs.Ytbjeflblhjfagaa
