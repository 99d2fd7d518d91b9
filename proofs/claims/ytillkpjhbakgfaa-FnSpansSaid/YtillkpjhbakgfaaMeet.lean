/- Contracts: SpansMeet of both sides ('meetB'). Conditions: only the bounds that any Go string meets. -/
import Derived.Test.YtillkpjhbakgfaaSpan
namespace Go.Proofs.Ytillkpjhbakgfaa
open Go.RowKit
theorem meet_11 {a b : ByteArray} (ha : starB a = true) (hb : starB b = true) : meetB a b = (beginsB (openBody a) (openBody b) || beginsB (openBody b) (openBody a)) := by simp [meetB, ha, hb]
theorem meet_10 {a b : ByteArray} (ha : starB a = true) (hb : starB b = false) : meetB a b = beginsB b (openBody a) := by simp [meetB, ha, hb]
theorem meet_0 {a b : ByteArray} (ha : starB a = false) : meetB a b = spanHasB b a := by simp [meetB, ha]

set_option maxHeartbeats 1600000 in
theorem specMeet_c (a b : ByteArray) (w : World) (hs : a.size ≤ maxLen) (hk : b.size ≤ maxLen) :
    Calls Try.prog 22 #[.string a, .string b] w fun e w' => e = .returned (.bool (meetB a b)) ∧ w = w' := by
  have oa := openBody_le hs
  have ob := openBody_le hk
  have c1 := Lib.hid (fun W => l03Open_c a W hs)
  have c2 := Lib.hid (fun W => l03Open_c b W hk)
  have c3 := Lib.hid (fun W => begins_c (openBody a) (openBody b) W oa ob)
  have c4 := Lib.hid (fun W => begins_c (openBody b) (openBody a) W ob oa)
  have c5 := Lib.hid (fun W => begins_c b (openBody a) W hk oa)
  have c6 := Lib.hid (fun W => specSpanHas_c b a W hk hs)
  clear hs hk oa ob
  cases ha : starB a
  · have HB := Lib.hid (meet_0 (b := b) ha)
    go_enter Try.func22, Try.ntmps22
    go_wp2_with fail
    refine (c1.out _).mono ?_
    rintro e w' ⟨rfl, rfl⟩
    go_wp2_with fail
    refine (c2.out _).mono ?_
    rintro e w' ⟨rfl, rfl⟩
    go_wp2_with fail
    refine (c6.out _).mono ?_
    rintro e w' ⟨rfl, rfl⟩
    go_wp2
    go_ret
    exact ⟨by rw [HB.out]; rfl, rfl⟩
  · cases hb : starB b
    · have HB := Lib.hid (meet_10 ha hb)
      go_enter Try.func22, Try.ntmps22
      go_wp2_with fail
      refine (c1.out _).mono ?_
      rintro e w' ⟨rfl, rfl⟩
      go_wp2_with fail
      refine (c2.out _).mono ?_
      rintro e w' ⟨rfl, rfl⟩
      go_wp2_with fail
      refine (c5.out _).mono ?_
      rintro e w' ⟨rfl, rfl⟩
      go_wp2
      go_ret
      exact ⟨by rw [HB.out]; rfl, rfl⟩
    · have HB := Lib.hid (meet_11 ha hb)
      cases h3 : beginsB (openBody a) (openBody b)
      · go_enter Try.func22, Try.ntmps22
        go_wp2_with fail
        refine (c1.out _).mono ?_
        rintro e w' ⟨rfl, rfl⟩
        go_wp2_with fail
        refine (c2.out _).mono ?_
        rintro e w' ⟨rfl, rfl⟩
        go_wp2_with fail
        refine (c3.out _).mono ?_
        rintro e w' ⟨rfl, rfl⟩
        go_wp2_with fail
        refine (c4.out _).mono ?_
        rintro e w' ⟨rfl, rfl⟩
        go_wp2
        go_ret
        exact ⟨by rw [HB.out, h3]; rfl, rfl⟩
      · go_enter Try.func22, Try.ntmps22
        go_wp2_with fail
        refine (c1.out _).mono ?_
        rintro e w' ⟨rfl, rfl⟩
        go_wp2_with fail
        refine (c2.out _).mono ?_
        rintro e w' ⟨rfl, rfl⟩
        go_wp2_with fail
        refine (c3.out _).mono ?_
        rintro e w' ⟨rfl, rfl⟩
        go_wp2
        go_ret
        exact ⟨by rw [HB.out, h3]; rfl, rfl⟩

set_option maxHeartbeats 1600000 in
theorem implMeet_c (a b : ByteArray) (w : World) (hs : a.size ≤ maxLen) (hk : b.size ≤ maxLen) :
    Calls Try.prog 20 #[.string a, .string b] w fun e w' => e = .returned (.bool (meetB a b)) ∧ w = w' := by
  have oa := openBody_le hs
  have ob := openBody_le hk
  have c1 := Lib.hid (fun W => cutStar_c a W hs)
  have c2 := Lib.hid (fun W => cutStar_c b W hk)
  have c3 := Lib.hid (fun W => hasPrefix_c (openBody a) (openBody b) W oa ob)
  have c4 := Lib.hid (fun W => hasPrefix_c (openBody b) (openBody a) W ob oa)
  have c5 := Lib.hid (fun W => implSpanHas_c a b W hs hk)
  have c6 := Lib.hid (fun W => implSpanHas_c b a W hk hs)
  clear hs hk oa ob
  cases ha : starB a
  · have HB := Lib.hid (meet_0 (b := b) ha)
    go_enter Try.func20, Try.ntmps20
    go_wp2_with fail
    refine (c1.out _).mono ?_
    rintro e w' ⟨rfl, rfl⟩
    go_wp2_with fail
    refine (c2.out _).mono ?_
    rintro e w' ⟨rfl, rfl⟩
    go_wp2_with fail
    refine (c6.out _).mono ?_
    rintro e w' ⟨rfl, rfl⟩
    go_wp2
    go_ret
    exact ⟨by rw [HB.out]; rfl, rfl⟩
  · cases hb : starB b
    · have HB := Lib.hid (show meetB a b = spanHasB a b by rw [meet_10 ha hb, spanHas_yes ha])
      go_enter Try.func20, Try.ntmps20
      go_wp2_with fail
      refine (c1.out _).mono ?_
      rintro e w' ⟨rfl, rfl⟩
      go_wp2_with fail
      refine (c2.out _).mono ?_
      rintro e w' ⟨rfl, rfl⟩
      go_wp2_with fail
      refine (c5.out _).mono ?_
      rintro e w' ⟨rfl, rfl⟩
      go_wp2
      go_ret
      exact ⟨by rw [HB.out]; rfl, rfl⟩
    · have HB := Lib.hid (meet_11 ha hb)
      cases h3 : beginsB (openBody a) (openBody b)
      · go_enter Try.func20, Try.ntmps20
        go_wp2_with fail
        refine (c1.out _).mono ?_
        rintro e w' ⟨rfl, rfl⟩
        go_wp2_with fail
        refine (c2.out _).mono ?_
        rintro e w' ⟨rfl, rfl⟩
        go_wp2_with fail
        refine (c3.out _).mono ?_
        rintro e w' ⟨rfl, rfl⟩
        go_wp2_with fail
        refine (c4.out _).mono ?_
        rintro e w' ⟨rfl, rfl⟩
        go_wp2
        go_ret
        exact ⟨by rw [HB.out, h3]; rfl, rfl⟩
      · go_enter Try.func20, Try.ntmps20
        go_wp2_with fail
        refine (c1.out _).mono ?_
        rintro e w' ⟨rfl, rfl⟩
        go_wp2_with fail
        refine (c2.out _).mono ?_
        rintro e w' ⟨rfl, rfl⟩
        go_wp2_with fail
        refine (c3.out _).mono ?_
        rintro e w' ⟨rfl, rfl⟩
        go_wp2
        go_ret
        exact ⟨by rw [HB.out, h3]; rfl, rfl⟩
end Go.Proofs.Ytillkpjhbakgfaa
