/- Walks: the reference's Encumber, Release, Spend, Budget. -/
import Derived.Test.YtbcapljiangjcaaFuF
namespace Go.Proofs.Ytbcapljiangjcaa
open Go.RowKit

set_option maxHeartbeats 400000 in
theorem renc_any (A : Option Addr) (n c : Nat) (xs : List Fu) (id am : Int) (w : World) (hs : Fs w w.heap.size A n c xs) (hn : n ≤ 1000) (hm : ∀ x ∈ xs, FuM x) :
    Calls Try.prog 25 #[.slice A n c, .int .i64 id, .int .i64 am] w fun e w' => ∃ v, e = .returned (.tuple #[v, .int .i64 (chR (encF am) xs id).1]) ∧ Fo w' w.heap.size v (chR (encF am) xs id).2 ∧ Below w.heap.size w w' := by
  obtain rfl := hs.len
  have hp := at_any A xs.length c xs id w _ hs
  have hm1 := amount_any am
  have hf := rfree_any A xs.length c xs id w hs hm
  have hbig := hs.big
  have HS := hide hs
  have HM := hide hm
  clear hs hm
  rcases getF_at (xs := xs) (id := id) with ⟨h1, h2⟩ | ⟨i, x, h1, h2, h3, h4⟩
  · rw [chR_none h1]
    rw [h1] at hp
    have HP := hide hp
    clear hp h1 h2 hf hm1
    go_enter Try.func25, Try.ntmps25
    go_wp2_with fail
    refine HP.out.mono ?_
    rintro e w1 ⟨rfl, rfl⟩
    go_wp2
    go_ret2
    exact ⟨_, rfl, World.ownsRow_nil _ _ _ _, Below.refl _ _⟩
  · have hx : FuM x := HM.out x (List.mem_of_getElem? h2)
    rw [h1] at hp
    rw [h4] at hf
    simp only at hf
    have HP := hide hp
    have HX := hide h2
    have HF := hide hf
    have HE := hide (And.intro h1 h4)
    clear hp h1 h2 h3 h4 hf
    by_cases h5 : mny am = true
    · rw [h5] at hm1
      have h5' : 0 ≤ am ∧ am ≤ 100000000 := by simpa [mny] using h5
      have M1 := hide hm1
      by_cases h6 : freeF x < am
      · have he : encF am x = (17, x) := by simp [encF, h5, h6]
        rw [chR_err HE.out.1 HE.out.2 (by simp [he]), he]
        clear hm1 he h5
        go_enter Try.func25, Try.ntmps25
        go_wp2_with fail
        refine HP.out.mono ?_
        rintro e w1 ⟨rfl, rfl⟩
        go_wp2_with fail
        refine (M1.out _).mono ?_
        rintro e w1 ⟨rfl, rfl⟩
        go_wp2_with fail
        refine HF.out.mono ?_
        rintro e w1 ⟨rfl, hb⟩
        go_wp2
        go_ret2
        exact ⟨_, rfl, World.ownsRow_nil _ _ _ _, hb⟩
      · have he : encF am x = (0, chg 0 am 0 x) := by simp [encF, h5, h6, chg]
        rw [chR_ok HE.out.1 HE.out.2 (by simp [he]), he]
        have hch := fun w1 (hb : Below w.heap.size w w1) => changed_any A xs.length c xs i x 0 am 0 w1 ((HS.out.below hb).more hb.size) hn HX.out (by have := hx.b; unfold I64; omega) (by have := hx.e; unfold I64; omega) (by have := hx.s; unfold I64; omega)
        have HC := hide hch
        clear hm1 he h5 hch hx
        go_enter Try.func25, Try.ntmps25
        go_wp2_with fail
        refine HP.out.mono ?_
        rintro e w1 ⟨rfl, rfl⟩
        go_wp2_with fail
        refine (M1.out _).mono ?_
        rintro e w1 ⟨rfl, rfl⟩
        go_wp2_with fail
        refine HF.out.mono ?_
        rintro e w1 ⟨rfl, hb⟩
        go_wp2_with fail
        refine (HC.out _ hb).mono ?_
        rintro e w2 ⟨v, rfl, hown, hb2⟩
        have hz := hb.size
        go_wp2
        go_ret2
        exact ⟨_, rfl, own_base hown hz, hb.trans (hb2.mono hz)⟩
    · have h5' : mny am = false := by simpa using h5
      rw [h5'] at hm1
      have he : encF am x = (2, x) := by simp [encF, h5']
      rw [chR_err HE.out.1 HE.out.2 (by simp [he]), he]
      have M1 := hide hm1
      clear hm1 he h5 h5'
      go_enter Try.func25, Try.ntmps25
      go_wp2_with fail
      refine HP.out.mono ?_
      rintro e w1 ⟨rfl, rfl⟩
      go_wp2_with fail
      refine (M1.out _).mono ?_
      rintro e w1 ⟨rfl, rfl⟩
      go_wp2
      go_ret2
      exact ⟨_, rfl, World.ownsRow_nil _ _ _ _, Below.refl _ _⟩

set_option maxHeartbeats 400000 in
theorem rrel_any (A : Option Addr) (n c : Nat) (xs : List Fu) (id am : Int) (w : World) (hs : Fs w w.heap.size A n c xs) (hn : n ≤ 1000) (hm : ∀ x ∈ xs, FuM x) :
    Calls Try.prog 27 #[.slice A n c, .int .i64 id, .int .i64 am] w fun e w' => ∃ v, e = .returned (.tuple #[v, .int .i64 (chR (relF am) xs id).1]) ∧ Fo w' w.heap.size v (chR (relF am) xs id).2 ∧ Below w.heap.size w w' := by
  obtain rfl := hs.len
  have hp := at_any A xs.length c xs id w _ hs
  have hm1 := amount_any am
  have hbig := hs.big
  have hle := hs.le
  have HS := hide hs
  have HM := hide hm
  clear hs hm
  rcases getF_at (xs := xs) (id := id) with ⟨h1, h2⟩ | ⟨i, x, h1, h2, h3, h4⟩
  · rw [chR_none h1]
    rw [h1] at hp
    have HP := hide hp
    clear hp h1 h2
    go_enter Try.func27, Try.ntmps27
    go_wp2_with fail
    refine HP.out.mono ?_
    rintro e w1 ⟨rfl, rfl⟩
    go_wp2
    go_ret2
    exact ⟨_, rfl, World.ownsRow_nil _ _ _ _, Below.refl _ _⟩
  · have hx : FuM x := HM.out x (List.mem_of_getElem? h2)
    rw [h1] at hp
    have HP := hide hp
    have HX := hide h2
    have HE := hide (And.intro h1 h4)
    have hi : i < xs.length := (List.getElem?_eq_some_iff.1 h2).1
    obtain ⟨b, off, y, rfl, hbB, hy, c0, c1, c2, c3, c4⟩ := Fs_at HS.out hi
    obtain rfl : x = y := by rw [hy] at h2; exact (Option.some.inj h2).symm
    clear hp h1 h2 h3 hy
    by_cases h5 : mny am = true
    · rw [h5] at hm1
      have h5' : 0 ≤ am ∧ am ≤ 100000000 := by simpa [mny] using h5
      have M1 := hide hm1
      by_cases h6 : x.enc < am
      · have he : relF am x = (17, x) := by simp [relF, h5, h6]
        rw [chR_err HE.out.1 HE.out.2 (by simp [he]), he]
        clear hm1 he h5 h4
        go_enter Try.func27, Try.ntmps27
        go_wp2_with fail
        refine (HP.out).mono ?_
        rintro e w1 ⟨rfl, rfl⟩
        go_wp2_with fail
        refine (M1.out _).mono ?_
        rintro e w1 ⟨rfl, rfl⟩
        go_wp2
        go_ret2
        exact ⟨_, rfl, World.ownsRow_nil _ _ _ _, Below.refl _ _⟩
      · have he : relF am x = (0, chg 0 (-am) 0 x) := by simp [relF, h5, h6, chg]; omega
        rw [chR_ok HE.out.1 HE.out.2 (by simp [he]), he]
        have hch := changed_any (some ⟨b, off, none⟩) xs.length c xs i x 0 (-am) 0 w HS.out hn HX.out (by have := hx.b; unfold I64; omega) (by have := hx.e; unfold I64; omega) (by have := hx.s; unfold I64; omega)
        have HC := hide hch
        clear hch
        clear hm1 he h5 h4 hx
        go_enter Try.func27, Try.ntmps27
        go_wp2_with fail
        refine (HP.out).mono ?_
        rintro e w1 ⟨rfl, rfl⟩
        go_wp2_with fail
        refine (M1.out _).mono ?_
        rintro e w1 ⟨rfl, rfl⟩
        go_wp2_with fail
        refine (HC.out).mono ?_
        rintro e w2 ⟨v, rfl, hown, hb2⟩
        go_wp2
        go_ret2
        exact ⟨_, rfl, hown, hb2⟩
    · have h5' : mny am = false := by simpa using h5
      rw [h5'] at hm1
      have he : relF am x = (2, x) := by simp [relF, h5']
      rw [chR_err HE.out.1 HE.out.2 (by simp [he]), he]
      have M1 := hide hm1
      clear hm1 he h5 h5' h4
      go_enter Try.func27, Try.ntmps27
      go_wp2_with fail
      refine (HP.out).mono ?_
      rintro e w1 ⟨rfl, rfl⟩
      go_wp2_with fail
      refine (M1.out _).mono ?_
      rintro e w1 ⟨rfl, rfl⟩
      go_wp2
      go_ret2
      exact ⟨_, rfl, World.ownsRow_nil _ _ _ _, Below.refl _ _⟩

set_option maxHeartbeats 400000 in
theorem rbud_any (A : Option Addr) (n c : Nat) (xs : List Fu) (id am : Int) (w : World) (hs : Fs w w.heap.size A n c xs) (hn : n ≤ 1000) (hm : ∀ x ∈ xs, FuM x) :
    Calls Try.prog 20 #[.slice A n c, .int .i64 id, .int .i64 am] w fun e w' => ∃ v, e = .returned (.tuple #[v, .int .i64 (chR (budF am) xs id).1]) ∧ Fo w' w.heap.size v (chR (budF am) xs id).2 ∧ Below w.heap.size w w' := by
  obtain rfl := hs.len
  have hp := at_any A xs.length c xs id w _ hs
  have hm1 := amount_any am
  have hbig := hs.big
  have hle := hs.le
  have HS := hide hs
  have HM := hide hm
  clear hs hm
  rcases getF_at (xs := xs) (id := id) with ⟨h1, h2⟩ | ⟨i, x, h1, h2, h3, h4⟩
  · rw [chR_none h1]
    rw [h1] at hp
    have HP := hide hp
    clear hp h1 h2
    go_enter Try.func20, Try.ntmps20
    go_wp2_with fail
    refine HP.out.mono ?_
    rintro e w1 ⟨rfl, rfl⟩
    go_wp2
    go_ret2
    exact ⟨_, rfl, World.ownsRow_nil _ _ _ _, Below.refl _ _⟩
  · have hx : FuM x := HM.out x (List.mem_of_getElem? h2)
    rw [h1] at hp
    have HP := hide hp
    have HX := hide h2
    have HE := hide (And.intro h1 h4)
    have hi : i < xs.length := (List.getElem?_eq_some_iff.1 h2).1
    obtain ⟨b, off, y, rfl, hbB, hy, c0, c1, c2, c3, c4⟩ := Fs_at HS.out hi
    obtain rfl : x = y := by rw [hy] at h2; exact (Option.some.inj h2).symm
    clear hp h1 h2 h3 hy
    have hm2 := amount_any (x.budget + am)
    have hxb := hx.b
    by_cases h5 : mny am = true
    · rw [h5] at hm1
      have h5' : 0 ≤ am ∧ am ≤ 100000000 := by simpa [mny] using h5
      obtain ⟨p1, p2⟩ := h5'
      obtain ⟨p3, p4⟩ := hxb
      have M1 := hide hm1
      by_cases h6 : mny (x.budget + am) = true
      · rw [h6] at hm2
        have he : budF am x = (0, chg am 0 0 x) := by simp [budF, h5, h6, chg]
        rw [chR_ok HE.out.1 HE.out.2 (by simp [he]), he]
        have M2 := hide hm2
        have hch := changed_any (some ⟨b, off, none⟩) xs.length c xs i x am 0 0 w HS.out hn HX.out (by have := hx.b; unfold I64; omega) (by have := hx.e; unfold I64; omega) (by have := hx.s; unfold I64; omega)
        have HC := hide hch
        clear hch
        clear hm1 hm2 he h5 h4 hx h6
        go_enter Try.func20, Try.ntmps20
        go_wp2_with fail
        refine (HP.out).mono ?_
        rintro e w1 ⟨rfl, rfl⟩
        go_wp2_with fail
        refine (M1.out _).mono ?_
        rintro e w1 ⟨rfl, rfl⟩
        go_wp2_with fail
        refine (M2.out _).mono ?_
        rintro e w1 ⟨rfl, rfl⟩
        go_wp2_with fail
        refine (HC.out).mono ?_
        rintro e w2 ⟨v, rfl, hown, hb2⟩
        go_wp2
        go_ret2
        exact ⟨_, rfl, hown, hb2⟩
      · have h6' : mny (x.budget + am) = false := by simpa using h6
        rw [h6'] at hm2
        have he : (budF am x).1 = 2 := by simp [budF, h5, h6']
        rw [chR_err HE.out.1 HE.out.2 (by simp [he]), he]
        have M2 := hide hm2
        clear hm1 hm2 he h5 h4 h6 h6'
        go_enter Try.func20, Try.ntmps20
        go_wp2_with fail
        refine (HP.out).mono ?_
        rintro e w1 ⟨rfl, rfl⟩
        go_wp2_with fail
        refine (M1.out _).mono ?_
        rintro e w1 ⟨rfl, rfl⟩
        go_wp2_with fail
        refine (M2.out _).mono ?_
        rintro e w1 ⟨rfl, rfl⟩
        go_wp2
        go_ret2
        exact ⟨_, rfl, World.ownsRow_nil _ _ _ _, Below.refl _ _⟩
    · have h5' : mny am = false := by simpa using h5
      rw [h5'] at hm1
      have he : (budF am x).1 = 2 := by simp [budF, h5']
      rw [chR_err HE.out.1 HE.out.2 (by simp [he]), he]
      have M1 := hide hm1
      clear hm1 he h5 h5' h4 hm2
      go_enter Try.func20, Try.ntmps20
      go_wp2_with fail
      refine (HP.out).mono ?_
      rintro e w1 ⟨rfl, rfl⟩
      go_wp2_with fail
      refine (M1.out _).mono ?_
      rintro e w1 ⟨rfl, rfl⟩
      go_wp2
      go_ret2
      exact ⟨_, rfl, World.ownsRow_nil _ _ _ _, Below.refl _ _⟩

set_option maxHeartbeats 400000 in
theorem rspd_any (A : Option Addr) (n c : Nat) (xs : List Fu) (id re am : Int) (w : World) (hs : Fs w w.heap.size A n c xs) (hn : n ≤ 1000) (hm : ∀ x ∈ xs, FuM x) :
    Calls Try.prog 29 #[.slice A n c, .int .i64 id, .int .i64 re, .int .i64 am] w fun e w' => ∃ v, e = .returned (.tuple #[v, .int .i64 (chR (spdF re am) xs id).1]) ∧ Fo w' w.heap.size v (chR (spdF re am) xs id).2 ∧ Below w.heap.size w w' := by
  obtain rfl := hs.len
  have hp := at_any A xs.length c xs id w _ hs
  have hm1 := amount_any re
  have hm2 := amount_any am
  have hf := rfree_any A xs.length c xs id w hs hm
  have hbig := hs.big
  have hle := hs.le
  have HS := hide hs
  have HM := hide hm
  clear hs hm
  rcases getF_at (xs := xs) (id := id) with ⟨h1, h2⟩ | ⟨i, x, h1, h2, h3, h4⟩
  · rw [chR_none h1]
    rw [h1] at hp
    have HP := hide hp
    clear hp h1 h2 hf hm1 hm2
    go_enter Try.func29, Try.ntmps29
    go_wp2_with fail
    refine HP.out.mono ?_
    rintro e w1 ⟨rfl, rfl⟩
    go_wp2
    go_ret2
    exact ⟨_, rfl, World.ownsRow_nil _ _ _ _, Below.refl _ _⟩
  · have hx : FuM x := HM.out x (List.mem_of_getElem? h2)
    rw [h4] at hf
    simp only at hf
    have HF := hide hf
    clear hf
    rw [h1] at hp
    have HP := hide hp
    have HX := hide h2
    have HE := hide (And.intro h1 h4)
    have hi : i < xs.length := (List.getElem?_eq_some_iff.1 h2).1
    obtain ⟨b, off, y, rfl, hbB, hy, c0, c1, c2, c3, c4⟩ := Fs_at HS.out hi
    obtain rfl : x = y := by rw [hy] at h2; exact (Option.some.inj h2).symm
    clear hp h1 h2 h3 hy
    by_cases h5 : mny re = true
    · rw [h5] at hm1
      have h5' : 0 ≤ re ∧ re ≤ 100000000 := by simpa [mny] using h5
      obtain ⟨p1, p2⟩ := h5'
      have M1 := hide hm1
      by_cases h7 : mny am = true
      · rw [h7] at hm2
        have h7' : 0 ≤ am ∧ am ≤ 100000000 := by simpa [mny] using h7
        obtain ⟨p3, p4⟩ := h7'
        have M2 := hide hm2
        by_cases h6 : x.enc < re
        · have he : spdF re am x = (17, x) := by simp [spdF, h5, h6, h7]
          rw [chR_err HE.out.1 HE.out.2 (by simp [he]), he]
          clear hm1 hm2 he h5 h4 h7
          go_enter Try.func29, Try.ntmps29
          go_wp2_with fail
          refine (HP.out).mono ?_
          rintro e w1 ⟨rfl, rfl⟩
          go_wp2_with fail
          refine (M1.out _).mono ?_
          rintro e w1 ⟨rfl, rfl⟩
          go_wp2_with fail
          refine (M2.out _).mono ?_
          rintro e w1 ⟨rfl, rfl⟩
          go_wp2
          go_ret2
          exact ⟨_, rfl, World.ownsRow_nil _ _ _ _, Below.refl _ _⟩
        · have hfr : -1000000000 ≤ freeF x ∧ freeF x ≤ 1000000000 := by have := hx.b; have := hx.e; have := hx.s; unfold freeF; omega
          obtain ⟨q1, q2⟩ := hfr
          by_cases h8 : freeF x + re < am
          · have he : spdF re am x = (17, x) := by simp [spdF, h5, h8, h7]
            rw [chR_err HE.out.1 HE.out.2 (by simp [he]), he]
            clear hm1 hm2 he h5 h4 h7
            go_enter Try.func29, Try.ntmps29
            go_wp2_with fail
            refine (HP.out).mono ?_
            rintro e w1 ⟨rfl, rfl⟩
            go_wp2_with fail
            refine (M1.out _).mono ?_
            rintro e w1 ⟨rfl, rfl⟩
            go_wp2_with fail
            refine (M2.out _).mono ?_
            rintro e w1 ⟨rfl, rfl⟩
            go_wp2_with fail
            refine HF.out.mono ?_
            rintro e w1 ⟨rfl, hb⟩
            have hz := hb.size
            go_wp2
            go_ret2
            exact ⟨_, rfl, World.ownsRow_nil _ _ _ _, hb⟩
          · have he : spdF re am x = (0, chg 0 (-re) am x) := by simp [spdF, h5, h6, h7, h8, chg]; omega
            rw [chR_ok HE.out.1 HE.out.2 (by simp [he]), he]
            have hch := fun w1 (hb : Below w.heap.size w w1) => changed_any (some ⟨b, off, none⟩) xs.length c xs i x 0 (-re) am w1 ((HS.out.below hb).more hb.size) hn HX.out (by have := hx.b; unfold I64; omega) (by have := hx.e; unfold I64; omega) (by have := hx.s; unfold I64; omega)
            have HC := hide hch
            clear hch
            clear hm1 hm2 he h5 h4 h7 hx
            go_enter Try.func29, Try.ntmps29
            go_wp2_with fail
            refine (HP.out).mono ?_
            rintro e w1 ⟨rfl, rfl⟩
            go_wp2_with fail
            refine (M1.out _).mono ?_
            rintro e w1 ⟨rfl, rfl⟩
            go_wp2_with fail
            refine (M2.out _).mono ?_
            rintro e w1 ⟨rfl, rfl⟩
            go_wp2_with fail
            refine HF.out.mono ?_
            rintro e w1 ⟨rfl, hb⟩
            have hz := hb.size
            go_wp2_with fail
            refine (HC.out _ hb).mono ?_
            rintro e w2 ⟨v, rfl, hown, hb2⟩
            go_wp2
            go_ret2
            exact ⟨_, rfl, own_base hown hz, hb.trans (hb2.mono hz)⟩
      · have h7' : mny am = false := by simpa using h7
        rw [h7'] at hm2
        have he : spdF re am x = (2, x) := by simp [spdF, h7']
        rw [chR_err HE.out.1 HE.out.2 (by simp [he]), he]
        have M2 := hide hm2
        clear hm1 hm2 he h5 h7 h7' h4
        go_enter Try.func29, Try.ntmps29
        go_wp2_with fail
        refine (HP.out).mono ?_
        rintro e w1 ⟨rfl, rfl⟩
        go_wp2_with fail
        refine (M1.out _).mono ?_
        rintro e w1 ⟨rfl, rfl⟩
        go_wp2_with fail
        refine (M2.out _).mono ?_
        rintro e w1 ⟨rfl, rfl⟩
        go_wp2
        go_ret2
        exact ⟨_, rfl, World.ownsRow_nil _ _ _ _, Below.refl _ _⟩
    · have h5' : mny re = false := by simpa using h5
      rw [h5'] at hm1
      have he : spdF re am x = (2, x) := by simp [spdF, h5']
      rw [chR_err HE.out.1 HE.out.2 (by simp [he]), he]
      have M1 := hide hm1
      clear hm1 hm2 he h5 h5' h4
      go_enter Try.func29, Try.ntmps29
      go_wp2_with fail
      refine (HP.out).mono ?_
      rintro e w1 ⟨rfl, rfl⟩
      go_wp2_with fail
      refine (M1.out _).mono ?_
      rintro e w1 ⟨rfl, rfl⟩
      go_wp2
      go_ret2
      exact ⟨_, rfl, World.ownsRow_nil _ _ _ _, Below.refl _ _⟩
end Go.Proofs.Ytbcapljiangjcaa
