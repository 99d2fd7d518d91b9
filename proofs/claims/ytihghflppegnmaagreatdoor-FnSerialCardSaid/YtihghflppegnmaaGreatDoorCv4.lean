/- Lemmas and contracts that the last text leans on, joined: NameOk, CallOk, Pg, PgCost, KeysK, Reg, SQ, RegC, SF, MF, KPrim. Conditions: as each theorem says. -/
import Derived.Test.YtihghflppegnmaaGreatDoorCv0
import Derived.Test.YtihghflppegnmaaGreatDoorCv3
set_option linter.unusedSimpArgs false
set_option linter.unusedVariables false
set_option maxHeartbeats 40000000
namespace Go.Proofs.YtihghflppegnmaaGreatDoor
open Go.Proofs.Tryz
section
open Go.RowKit
def nameByte (c : UInt8) : Bool := inB (c.toNat : Int) 97 122 || inB (c.toNat : Int) 48 57 || (c.toNat : Int) == 46 || (c.toNat : Int) == 45
def nameOkB (s : ByteArray) : Bool := s.data.toList.all nameByte && inB s.size 1 12
namespace NameOk
def bytesUpTo (f : UInt8 → Bool) (s : ByteArray) (k : Nat) : Prop := (s.data.toList.take k).all f = true
theorem bytesUpTo_zero (f : UInt8 → Bool) (s : ByteArray) : bytesUpTo f s 0 := by simp [bytesUpTo]
theorem take_snoc (s : ByteArray) (k : Nat) (h : k < s.size) : s.data.toList.take (k + 1) = s.data.toList.take k ++ [s[k]] := by
 rw [List.take_succ_eq_append_getElem (by simpa using h)]; rfl
theorem bytesUpTo_succ (f : UInt8 → Bool) (s : ByteArray) (k : Nat) (h : k < s.size) (hk : bytesUpTo f s k) (hb : f s[k] = true) : bytesUpTo f s (k + 1) := by
 unfold bytesUpTo at *;rw [take_snoc s k h, List.all_append, hk];simp [hb]
theorem nameOk_no (s : ByteArray) (k : Nat) (h : k < s.size) (hb : nameByte s[k] = false) : nameOkB s = false := by
 have : s.data.toList.all nameByte = false := by
  rw [List.all_eq_false];exact ⟨s[k], by rw [show s[k] = s.data.toList[k]'(by simpa using h) from rfl]; exact List.getElem_mem _, by simp [hb]⟩
 simp [nameOkB, this]
theorem nameOk_end (s : ByteArray) (k : Nat) (hk : bytesUpTo nameByte s k) (h : s.size ≤ k) : nameOkB s = inB s.size 1 12 := by
 unfold bytesUpTo at hk;rw [List.take_of_length_le (by simpa using h)] at hk;simp [nameOkB, hk]
theorem byte_le (c : UInt8) : (c.toNat : Int) ≤ 255 := by have := c.toNat_lt; omega
theorem nameByte_a {c : UInt8} (h : inB (c.toNat : Int) 97 122 = true) : nameByte c = true := by simp [nameByte, h]
theorem nameByte_b {c : UInt8} (h : inB (c.toNat : Int) 48 57 = true) : nameByte c = true := by simp [nameByte, h]
theorem nameByte_c {c : UInt8} (h : ((c.toNat : Int) == 46) = true) : nameByte c = true := by simp [nameByte, h]
theorem nameByte_d {c : UInt8} (h : ((c.toNat : Int) == 45) = true) : nameByte c = true := by simp [nameByte, h]
theorem nameByte_no {c : UInt8} (h1 : inB (c.toNat : Int) 97 122 = false) (h2 : inB (c.toNat : Int) 48 57 = false) (h3 : ((c.toNat : Int) == 46) = false) (h4 : ((c.toNat : Int) == 45) = false) : nameByte c = false := by
 simp [nameByte, h1, h2, h3, h4]
end NameOk
open NameOk
theorem specNameOk_c (s : ByteArray) (w : World) (hs : s.size ≤ maxLen) :
 Calls prog 174 #[.string s] w fun e w' => e = .returned (.bool (nameOkB s)) ∧ w = w' := by
 unfold maxLen at hs;go_enter func174, ntmps174;go_wp2;go_loop [3] (fun i => ∃ k : Nat, k ≤ s.size ∧ i = .int .i64 k ∧ bytesUpTo nameByte s k) (fun i => s.size - (intOf i).toNat)
 case atStart => exact ⟨0, Nat.zero_le _, rfl, bytesUpTo_zero _ s⟩
 case round =>
  obtain ⟨k, hk, rfl, hup⟩ := hrel;by_cases hlt : k < s.size
  ·have hb255 := byte_le s[k];cases h1 : inB (s[k].toNat : Int) 97 122
   ·cases h2 : inB (s[k].toNat : Int) 48 57
    ·cases h3 : ((s[k].toNat : Int) == 46)
     ·cases h4 : ((s[k].toNat : Int) == 45)
      ·have n3 : ((s[k].toNat : Int) != 46) = true := by rw [bne, h3]; rfl
       have n4 : ((s[k].toNat : Int) != 45) = true := by rw [bne, h4]; rfl
       have hno := hid9 (nameOk_no s k hlt (nameByte_no h1 h2 h3 h4));go_wp2_with (first | (go_at_call 70; refine (l01In_c _ _ _ _).mono ?_; rintro e w' ⟨rfl, rfl⟩) | go_in);go_ret;exact ⟨by rw [hno.out]; rfl, rfl⟩
      ·have n3 : ((s[k].toNat : Int) != 46) = true := by rw [bne, h3]; rfl
       have n4 : ((s[k].toNat : Int) != 45) = false := by rw [bne, h4]; rfl
       have hsucc := bytesUpTo_succ nameByte s k hlt hup (nameByte_d h4);go_wp2_with (first | (go_at_call 70; refine (l01In_c _ _ _ _).mono ?_; rintro e w' ⟨rfl, rfl⟩) | go_in);go_round
       case rel => exact ⟨k + 1, by omega, by go_num, hsucc⟩
       case measure => simp [intOf]; omega
     ·have n3 : ((s[k].toNat : Int) != 46) = false := by rw [bne, h3]; rfl
      have hsucc := bytesUpTo_succ nameByte s k hlt hup (nameByte_c h3);go_wp2_with (first | (go_at_call 70; refine (l01In_c _ _ _ _).mono ?_; rintro e w' ⟨rfl, rfl⟩) | go_in);go_round
      case rel => exact ⟨k + 1, by omega, by go_num, hsucc⟩
      case measure => simp [intOf]; omega
    ·have hsucc := bytesUpTo_succ nameByte s k hlt hup (nameByte_b h2);go_wp2_with (first | (go_at_call 70; refine (l01In_c _ _ _ _).mono ?_; rintro e w' ⟨rfl, rfl⟩) | go_in);go_round
     case rel => exact ⟨k + 1, by omega, by go_num, hsucc⟩
     case measure => simp [intOf]; omega
   ·have hsucc := bytesUpTo_succ nameByte s k hlt hup (nameByte_a h1);go_wp2_with (first | (go_at_call 70; refine (l01In_c _ _ _ _).mono ?_; rintro e w' ⟨rfl, rfl⟩) | go_in);go_round
    case rel => exact ⟨k + 1, by omega, by go_num, hsucc⟩
    case measure => simp [intOf]; omega
  ·have hend := hid9 (nameOk_end s k hup (by omega));go_wp2_with (first | (go_at_call 70; refine (l01In_c _ _ _ _).mono ?_; rintro e w' ⟨rfl, rfl⟩) | go_in);go_ret;exact ⟨by rw [hend.out]; rfl, rfl⟩
theorem implNameOk_c (s : ByteArray) (w : World) (hs : s.size ≤ maxLen) :
 Calls prog 153 #[.string s] w fun e w' => e = .returned (.bool (nameOkB s)) ∧ w = w' := by
 unfold maxLen at hs;go_enter func153, ntmps153;go_wp2;go_loop [7] (fun i => ∃ k : Nat, k ≤ s.size ∧ i = .int .i64 k ∧ bytesUpTo nameByte s k) (fun i => s.size - (intOf i).toNat)
 case atStart => exact ⟨0, Nat.zero_le _, rfl, bytesUpTo_zero _ s⟩
 case round =>
  obtain ⟨k, hk, rfl, hup⟩ := hrel;by_cases hlt : k < s.size
  ·have hb255 := byte_le s[k];rcases (show (97 ≤ (s[k].toNat : Int) ∧ (s[k].toNat : Int) ≤ 122) ∨ (48 ≤ (s[k].toNat : Int) ∧ (s[k].toNat : Int) ≤ 57) ∨ 122 < (s[k].toNat : Int) ∨ (57 < (s[k].toNat : Int) ∧ (s[k].toNat : Int) < 97) ∨ (s[k].toNat : Int) < 48 by omega) with ⟨h1, h2⟩ | ⟨h1, h2⟩ | h1 | ⟨h1, h2⟩ | h1
   ·have hsucc := bytesUpTo_succ nameByte s k hlt hup (nameByte_a (inB_yes h1 h2));go_wp2_with (first | (go_at_call 152; refine (within_c _ _ _ _).mono ?_; rintro e w' ⟨rfl, rfl⟩) | go_in);go_round
    case rel => exact ⟨k + 1, by omega, by go_num, hsucc⟩
    case measure => simp [intOf]; omega
   ·have hsucc := bytesUpTo_succ nameByte s k hlt hup (nameByte_b (inB_yes h1 h2));go_wp2_with (first | (go_at_call 152; refine (within_c _ _ _ _).mono ?_; rintro e w' ⟨rfl, rfl⟩) | go_in);go_round
    case rel => exact ⟨k + 1, by omega, by go_num, hsucc⟩
    case measure => simp [intOf]; omega
   ·have n3 : ((s[k].toNat : Int) != 46) = true := by simp; omega
    have n4 : ((s[k].toNat : Int) != 45) = true := by simp; omega
    have d1 : decide ((s[k].toNat : Int) ≤ 122) = false := by simp; omega
    have d2 : decide ((s[k].toNat : Int) ≤ 57) = false := by simp; omega
    have hno := hid9 (nameOk_no s k hlt (nameByte_no (inB_hi h1) (inB_hi (by omega)) (by simp; omega) (by simp; omega)));go_wp2_with (first | (go_at_call 152; refine (within_c _ _ _ _).mono ?_; rintro e w' ⟨rfl, rfl⟩) | go_in);go_ret;exact ⟨by rw [hno.out]; rfl, rfl⟩
   ·have n3 : ((s[k].toNat : Int) != 46) = true := by simp; omega
    have n4 : ((s[k].toNat : Int) != 45) = true := by simp; omega
    have d1 : decide (97 ≤ (s[k].toNat : Int)) = false := by simp; omega
    have d2 : decide ((s[k].toNat : Int) ≤ 57) = false := by simp; omega
    have hno := hid9 (nameOk_no s k hlt (nameByte_no (inB_lo h2) (inB_hi (by omega)) (by simp; omega) (by simp; omega)));go_wp2_with (first | (go_at_call 152; refine (within_c _ _ _ _).mono ?_; rintro e w' ⟨rfl, rfl⟩) | go_in);go_ret;exact ⟨by rw [hno.out]; rfl, rfl⟩
   ·cases h3 : ((s[k].toNat : Int) == 46)
    ·cases h4 : ((s[k].toNat : Int) == 45)
     ·have n3 : ((s[k].toNat : Int) != 46) = true := by rw [bne, h3]; rfl
      have n4 : ((s[k].toNat : Int) != 45) = true := by rw [bne, h4]; rfl
      have hno := hid9 (nameOk_no s k hlt (nameByte_no (inB_lo (by omega)) (inB_lo h1) h3 h4));go_wp2_with (first | (go_at_call 152; refine (within_c _ _ _ _).mono ?_; rintro e w' ⟨rfl, rfl⟩) | go_in);go_ret;exact ⟨by rw [hno.out]; rfl, rfl⟩
     ·have n3 : ((s[k].toNat : Int) != 46) = true := by rw [bne, h3]; rfl
      have n4 : ((s[k].toNat : Int) != 45) = false := by rw [bne, h4]; rfl
      have hsucc := bytesUpTo_succ nameByte s k hlt hup (nameByte_d h4);go_wp2_with (first | (go_at_call 152; refine (within_c _ _ _ _).mono ?_; rintro e w' ⟨rfl, rfl⟩) | go_in);go_round
      case rel => exact ⟨k + 1, by omega, by go_num, hsucc⟩
      case measure => simp [intOf]; omega
    ·have n3 : ((s[k].toNat : Int) != 46) = false := by rw [bne, h3]; rfl
     have hsucc := bytesUpTo_succ nameByte s k hlt hup (nameByte_c h3);go_wp2_with (first | (go_at_call 152; refine (within_c _ _ _ _).mono ?_; rintro e w' ⟨rfl, rfl⟩) | go_in);go_round
     case rel => exact ⟨k + 1, by omega, by go_num, hsucc⟩
     case measure => simp [intOf]; omega
  ·have hend := hid9 (nameOk_end s k hup (by omega));go_wp2_with (first | (go_at_call 152; refine (within_c _ _ _ _).mono ?_; rintro e w' ⟨rfl, rfl⟩) | go_in);go_ret;exact ⟨by rw [hend.out]; rfl, rfl⟩
def callOkB (x : Cal) : Bool := inB x.kind 1 22 && (decide ((x.name.size : Int) ≤ 20) && (decide ((x.dest.size : Int) ≤ 20) && decide ((x.text.size : Int) ≤ 64)))
theorem callOk_1 {x : Cal} (h : inB x.kind 1 22 = false) : callOkB x = false := by simp [callOkB, h]
theorem callOk_2 {x : Cal} (h : 20 < (x.name.size : Int)) : callOkB x = false := by simp [callOkB]; omega
theorem callOk_3 {x : Cal} (h : 20 < (x.dest.size : Int)) : callOkB x = false := by simp [callOkB]; omega
theorem callOk_4 {x : Cal} (h : 64 < (x.text.size : Int)) : callOkB x = false := by simp [callOkB]; omega
theorem callOk_yes {x : Cal} (h1 : inB x.kind 1 22 = true) (h2 : (x.name.size : Int) ≤ 20) (h3 : (x.dest.size : Int) ≤ 20) (h4 : (x.text.size : Int) ≤ 64) : callOkB x = true := by
 simp [callOkB, h1]; omega
theorem specCallOk_c (x : Cal) (b0 : x.name.size ≤ maxLen) (b1 : x.dest.size ≤ maxLen) (b2 : x.text.size ≤ maxLen) (w : World) :
 Calls prog 22 #[.agg #[.int .i64 x.kind, .string x.name, .string x.dest, .int .i64 x.a, .int .i64 x.b, .string x.text]] w fun e w' => e = .returned (.bool (callOkB x)) ∧ Below w.heap.size w w' := by
 unfold maxLen at b0 b1 b2;cases h1 : inB x.kind 1 22
 ·have HS := hid9 (callOk_1 h1);go_enter func22, ntmps22;go_wp2_with (first | (go_at_call 70; refine (l01In_c _ _ _ _).mono ?_; rintro e w' ⟨rfl, rfl⟩) | go_in);go_ret;exact ⟨by rw [HS.out]; rfl, bel8⟩
 ·by_cases h2 : (x.name.size : Int) ≤ 20
  ·by_cases h3 : (x.dest.size : Int) ≤ 20
   ·by_cases h4 : (x.text.size : Int) ≤ 64
    ·have HS := hid9 (callOk_yes h1 h2 h3 h4);go_enter func22, ntmps22;go_wp2_with (first | (go_at_call 70; refine (l01In_c _ _ _ _).mono ?_; rintro e w' ⟨rfl, rfl⟩) | go_in);go_ret;exact ⟨by rw [HS.out]; rfl, bel8⟩
    ·have HS := hid9 (callOk_4 (x := x) (by omega));have d1 : decide ((x.text.size : Int) ≤ 64) = false := by simp; omega
     go_enter func22, ntmps22;go_wp2_with (first | (go_at_call 70; refine (l01In_c _ _ _ _).mono ?_; rintro e w' ⟨rfl, rfl⟩) | go_in);go_ret;exact ⟨by rw [HS.out]; rfl, bel8⟩
   ·have HS := hid9 (callOk_3 (x := x) (by omega));have d1 : decide ((x.dest.size : Int) ≤ 20) = false := by simp; omega
    go_enter func22, ntmps22;go_wp2_with (first | (go_at_call 70; refine (l01In_c _ _ _ _).mono ?_; rintro e w' ⟨rfl, rfl⟩) | go_in);go_ret;exact ⟨by rw [HS.out]; rfl, bel8⟩
  ·have HS := hid9 (callOk_2 (x := x) (by omega));have d1 : decide ((x.name.size : Int) ≤ 20) = false := by simp; omega
   go_enter func22, ntmps22;go_wp2_with (first | (go_at_call 70; refine (l01In_c _ _ _ _).mono ?_; rintro e w' ⟨rfl, rfl⟩) | go_in);go_ret;exact ⟨by rw [HS.out]; rfl, bel8⟩
theorem implCallOk_c (x : Cal) (b0 : x.name.size ≤ maxLen) (b1 : x.dest.size ≤ maxLen) (b2 : x.text.size ≤ maxLen) (w : World) :
 Calls prog 97 #[.agg #[.int .i64 x.kind, .string x.name, .string x.dest, .int .i64 x.a, .int .i64 x.b, .string x.text]] w fun e w' => e = .returned (.bool (callOkB x)) ∧ Below w.heap.size w w' := by
 unfold maxLen at b0 b1 b2;cases h1 : inB x.kind 1 22
 ·have HS := hid9 (callOk_1 h1);go_enter func97, ntmps97;go_wp2_with (first | (go_at_call 152; refine (within_c _ _ _ _).mono ?_; rintro e w' ⟨rfl, rfl⟩) | go_in);go_ret;exact ⟨by rw [HS.out]; rfl, bel8⟩
 ·by_cases h2 : (x.name.size : Int) ≤ 20
  ·by_cases h3 : (x.dest.size : Int) ≤ 20
   ·by_cases h4 : (x.text.size : Int) ≤ 64
    ·have HS := hid9 (callOk_yes h1 h2 h3 h4);go_enter func97, ntmps97;go_wp2_with (first | (go_at_call 152; refine (within_c _ _ _ _).mono ?_; rintro e w' ⟨rfl, rfl⟩) | go_in);go_ret;exact ⟨by rw [HS.out]; rfl, bel8⟩
    ·have HS := hid9 (callOk_4 (x := x) (by omega));have d1 : decide ((x.text.size : Int) ≤ 64) = false := by simp; omega
     go_enter func97, ntmps97;go_wp2_with (first | (go_at_call 152; refine (within_c _ _ _ _).mono ?_; rintro e w' ⟨rfl, rfl⟩) | go_in);go_ret;exact ⟨by rw [HS.out]; rfl, bel8⟩
   ·have HS := hid9 (callOk_3 (x := x) (by omega));have d1 : decide ((x.dest.size : Int) ≤ 20) = false := by simp; omega
    go_enter func97, ntmps97;go_wp2_with (first | (go_at_call 152; refine (within_c _ _ _ _).mono ?_; rintro e w' ⟨rfl, rfl⟩) | go_in);go_ret;exact ⟨by rw [HS.out]; rfl, bel8⟩
  ·have HS := hid9 (callOk_2 (x := x) (by omega));have d1 : decide ((x.name.size : Int) ≤ 20) = false := by simp; omega
   go_enter func97, ntmps97;go_wp2_with (first | (go_at_call 152; refine (within_c _ _ _ _).mono ?_; rintro e w' ⟨rfl, rfl⟩) | go_in);go_ret;exact ⟨by rw [HS.out]; rfl, bel8⟩
def starK (p : ByteArray) : ByteArray := p ++ ⟨#[42]⟩
inductive Pg (α : Type) : Type where
 | ret : α → Pg α
 | look : ByteArray → (ByteArray → Pg α) → Pg α
 | lay : ByteArray → ByteArray → Pg α → Pg α
 | under : ByteArray → (List ByteArray → Pg α) → Pg α
namespace Pg
variable {α β : Type}
def bind : Pg α → (α → Pg β) → Pg β
 | .ret a, g => g a
 | .look k f, g => .look k (fun v => bind (f v) g)
 | .lay k v f, g => .lay k v (bind f g)
 | .under p f, g => .under p (fun v => bind (f v) g)
instance : Monad Pg where
 pure := Pg.ret
 bind := Pg.bind
def run : Pg α → Mch → Mch × α
 | .ret a, m => (m, a)
 | .look k f, m => run (f (getKeyS m.st k)) (lookM m k)
 | .lay k v f, m => run f (layM m k v)
 | .under p f, m => run (f (keysU m.st p)) (lookM m (starK p))
theorem run_ret (a : α) (m : Mch) : (Pg.ret a).run m = (m, a) := rfl
theorem run_pure (a : α) (m : Mch) : (pure a : Pg α).run m = (m, a) := rfl
theorem run_bind' (x : Pg α) (g : α → Pg β) : ∀ m : Mch, (Pg.bind x g).run m = (g (x.run m).2).run (x.run m).1 := by
 induction x with
 | ret a => intro m; rfl
 | look k f ih => intro m; exact ih _ _
 | lay k v f ih => intro m; exact ih _
 | under p f ih => intro m; exact ih _ _
theorem run_bind (x : Pg α) (g : α → Pg β) (m : Mch) : (x >>= g).run m = (g (x.run m).2).run (x.run m).1 := run_bind' x g m
end Pg
def noB : ByteArray := ⟨#[]⟩
def lookP (k : ByteArray) : Pg ByteArray := .look k .ret
def layP (k v : ByteArray) : Pg Unit := .lay k v (.ret ())
def underP (p : ByteArray) : Pg (List ByteArray) := .under p .ret
noncomputable def numP (k : ByteArray) : Pg Int := .look k fun v => .ret (numOfV v)
def setP (k : ByteArray) (n : Int) : Pg Unit := .lay k (numText n) (.ret ())
noncomputable def bumpP (k : ByteArray) : Pg Int := do
 let n ← numP k
 if 999 < n + 1 then pure 0 else do
  setP k (n + 1)
  pure (n + 1)
noncomputable def msgP (k : ByteArray) : Pg ByteArray := .look k fun v => .ret (msgV v)
def layAll : List ByteArray → Pg Unit
 | [] => .ret ()
 | k :: ks => .lay k noB (layAll ks)
def wipeP (p : ByteArray) : Pg Unit := .under p layAll
def nK (name : ByteArray) : ByteArray := ⟨#[110, 47]⟩ ++ name
def nHead : ByteArray := ⟨#[110, 47]⟩
def linksK (id : Int) : ByteArray := keyNumS ⟨#[105, 47]⟩ id ⟨#[47, 108]⟩
def sizeK (id : Int) : ByteArray := keyNumS ⟨#[105, 47]⟩ id ⟨#[47, 115]⟩
def fileK (id : Int) : ByteArray := keyNumS ⟨#[105, 47]⟩ id ⟨#[47]⟩
def blockK (id place : Int) : ByteArray := keyNumS (keyNumS ⟨#[105, 47]⟩ id ⟨#[47, 98, 47]⟩) place ⟨#[]⟩
def pipeK (id : Int) (t : ByteArray) : ByteArray := keyNumS ⟨#[112, 47]⟩ id t
def pipeQ (id k : Int) : ByteArray := keyNumS (pipeK id ⟨#[47, 113, 47]⟩) k ⟨#[]⟩
def sigK (id : Int) (t : ByteArray) : ByteArray := keyNumS ⟨#[103, 47]⟩ id t
def sigQ (id k : Int) : ByteArray := keyNumS (sigK id ⟨#[47, 113, 47]⟩) k ⟨#[]⟩
def timerK (id : Int) : ByteArray := keyNumS ⟨#[116, 47]⟩ id ⟨#[]⟩
def pagesK (id : Int) : ByteArray := keyNumS ⟨#[109, 47]⟩ id ⟨#[47]⟩
def pageK (id page : Int) : ByteArray := keyNumS (pagesK id) page ⟨#[]⟩
def outK1 (n : Int) : ByteArray := keyNumS dK n ⟨#[]⟩
def cFile : ByteArray := ⟨#[99, 47, 102, 105, 108, 101]⟩
def cPipe : ByteArray := ⟨#[99, 47, 112, 105, 112, 101]⟩
def cProc : ByteArray := ⟨#[99, 47, 112, 114, 111, 99]⟩
def cClock : ByteArray := ⟨#[99, 47, 99, 108, 111, 99, 107]⟩
def tO : ByteArray := ⟨#[47, 111]⟩
def tT : ByteArray := ⟨#[47, 116]⟩
def tH : ByteArray := ⟨#[47, 104]⟩
def tS : ByteArray := ⟨#[47, 115]⟩
def tP : ByteArray := ⟨#[47, 112]⟩
def tX : ByteArray := ⟨#[47, 120]⟩
def tSl : ByteArray := ⟨#[47]⟩
def tHead : ByteArray := ⟨#[116, 47]⟩
def rHead : ByteArray := ⟨#[114, 47]⟩
def hyphenS (s : ByteArray) : ByteArray := ⟨#[45]⟩ ++ s
noncomputable def fileOfP (name : ByteArray) : Pg Int := if nameOkB name = true then numP (nK name) else pure 0
noncomputable def makeP (name : ByteArray) : Pg (Int × Int) :=
 if nameOkB name = true then do
  let id ← fileOfP name
  if id = 0 then do
   let many ← numP cFile
   if 20 ≤ many then pure (0, 3) else do
    let id2 ← bumpP cFile
    setP (nK name) id2
    setP (linksK id2) 1
    pure (id2, 0)
  else pure (0, 1)
 else pure (0, 4)
noncomputable def linkP (a b : ByteArray) : Pg Int :=
 if (nameOkB a && nameOkB b) = true then do
  let id ← fileOfP a
  if id = 0 then pure 2 else do
   let o ← fileOfP b
   if o = 0 then do
    let n ← numP (linksK id)
    if 4 ≤ n then pure 3 else do
     setP (nK b) id
     setP (linksK id) (n + 1)
     pure 0
   else pure 1
 else pure 4
noncomputable def unlinkP (name : ByteArray) : Pg Int :=
 if nameOkB name = true then do
  let id ← fileOfP name
  if id = 0 then pure 2 else do
   layP (nK name) noB
   let n ← numP (linksK id)
   if 1 < n then do
    setP (linksK id) (n - 1)
    pure 0
   else do
    wipeP (fileK id)
    pure 0
 else pure 4
noncomputable def renameP (a b : ByteArray) : Pg Int :=
 if (nameOkB a && nameOkB b) = true then do
  let id ← fileOfP a
  if id = 0 then pure 2 else do
   let o ← fileOfP b
   if o = id then pure 0 else
    if o = 0 then do
     setP (nK b) id
     layP (nK a) noB
     pure 0
    else do
     let _ ← unlinkP b
     setP (nK b) id
     layP (nK a) noB
     pure 0
 else pure 4
def drop2 (k : ByteArray) : ByteArray := k.extract 2 k.size
def namesP : Pg (List ByteArray) := .under nHead fun ks => .ret (ks.map drop2)
noncomputable def blockP (id place : Int) : Pg ByteArray := .look (blockK id place) fun v => .ret (unhexV v)
def pieceOf (b : ByteArray) (place at_ end_ : Int) : ByteArray := b.extract (max (at_ - place * 8) 0).toNat (min (end_ - place * 8) (min 8 b.size)).toNat
noncomputable def readL (id at_ end_ : Int) : Nat → Int → ByteArray → Pg ByteArray
 | 0, _, acc => .ret acc
 | n + 1, place, acc => if place * 8 < end_ then do
  let b ← blockP id place
  readL id at_ end_ n (place + 1) (acc ++ pieceOf b place at_ end_)
  else .ret acc
noncomputable def readP (id at_ n : Int) : Pg ByteArray := do
 let size ← numP (sizeK id)
 if at_ < 0 ∨ n < 1 ∨ size ≤ at_ then pure noB else readL id at_ (at_ + min n (size - at_)) 200 (at_ / 8) noB
def padB (b : List UInt8) (n : Nat) : List UInt8 := b ++ List.replicate (n - b.length) 0
def stepB (text : ByteArray) (place at_ end_ : Int) (b : List UInt8) (i : Nat) : List UInt8 :=
 if at_ ≤ place * 8 + i ∧ place * 8 + i < end_ then (padB b (i + 1)).set i (text.data.toList.getD (place * 8 + i - at_).toNat 0) else b
def newBlock (old text : ByteArray) (place at_ end_ : Int) : ByteArray := ⟨((List.range 8).foldl (stepB text place at_ end_) old.data.toList).toArray⟩
noncomputable def writeL (id at_ end_ : Int) (text : ByteArray) : Nat → Int → Pg Unit
 | 0, _ => .ret ()
 | n + 1, place => if place * 8 < end_ then do
  let b ← blockP id place
  layP (blockK id place) (hexV (newBlock b text place at_ end_))
  writeL id at_ end_ text n (place + 1)
  else .ret ()
noncomputable def writeP (id at_ : Int) (text : ByteArray) : Pg Int := do
 let size ← numP (sizeK id)
 if (inB at_ 0 size && decide (0 < text.size)) = true then
  if 64 < at_ + text.size then pure 3 else do
   writeL id at_ (at_ + text.size) text 20 (at_ / 8)
   if size < at_ + text.size then do
    setP (sizeK id) (at_ + text.size)
    pure 0
   else pure 0
 else pure 4
def cutL (id size : Int) : Nat → Int → Pg Unit
 | 0, _ => .ret ()
 | n + 1, place => if place * 8 < size then .lay (blockK id place) noB (cutL id size n (place + 1)) else .ret ()
noncomputable def cutP (id n : Int) : Pg Int := do
 let size ← numP (sizeK id)
 if inB n 0 size = true then
  if 0 < n % 8 then do
   let b ← blockP id (n / 8)
   layP (blockK id (n / 8)) (hexV (b.extract 0 (min (n % 8) b.size).toNat))
   cutL id size 200 (n / 8 + 1)
   setP (sizeK id) n
   pure 0
  else do
   cutL id size 200 (n / 8)
   setP (sizeK id) n
   pure 0
 else pure 4
noncomputable def mkPipeP : Pg (Int × Int) := do
 let many ← numP cPipe
 if 8 ≤ many then pure (0, 3) else do
  let id ← bumpP cPipe
  setP (pipeK id tO) 1
  pure (id, 0)
noncomputable def isPipeP (id : Int) : Pg Bool := do
 let n ← numP (pipeK id tO)
 pure (decide (n = 1))
noncomputable def putPipeP (id : Int) (text : ByteArray) : Pg Int := do
 let ok ← isPipeP id
 if ok = true then
  if 20 < text.size then pure 4 else do
   let t ← numP (pipeK id tT)
   let h ← numP (pipeK id tH)
   if 4 ≤ t - h then pure 5 else
    if 999 ≤ t then pure 3 else do
     setP (pipeK id tT) (t + 1)
     layP (pipeQ id (t + 1)) (hyphenS (hexV text))
     pure 0
 else pure 2
noncomputable def takePipeP (id : Int) : Pg (ByteArray × Int) := do
 let ok ← isPipeP id
 if ok = true then do
  let h ← numP (pipeK id tH)
  let t ← numP (pipeK id tT)
  if t = h then pure (noB, 5) else do
   let x ← msgP (pipeQ id (h + 1))
   layP (pipeQ id (h + 1)) noB
   setP (pipeK id tH) (h + 1)
   pure (x, 0)
 else pure (noB, 2)
noncomputable def stateP (id : Int) : Pg Int := numP (procK id tS)
noncomputable def spawnP (parent : Int) : Pg (Int × Int) := do
 let many ← numP cProc
 if 12 ≤ many then pure (0, 3) else do
  let id ← bumpP cProc
  setP (procK id tS) 1
  setP (procK id tP) parent
  pure (id, 0)
noncomputable def endP (id n : Int) : Pg Int := do
 let s ← stateP id
 if s = 1 then
  if inB n 0 100 = true then do
   setP (procK id tS) 2
   setP (procK id tX) (n + 1)
   pure 0
  else pure 4
 else pure 2
noncomputable def reapP (parent id : Int) : Pg (Int × Int) := do
 let own ← numP (procK id tP)
 if own = 0 ∨ own ≠ parent then pure (0, 2) else do
  let s ← stateP id
  if s = 1 then pure (0, 5) else
   if s = 2 then do
    let x ← numP (procK id tX)
    wipeP (procK id tSl)
    pure (x - 1, 0)
   else pure (0, 2)
def kidKey (k : ByteArray) : Bool := decide (5 ≤ k.size) && Lib.hasSuffix k.data.toList [47, 112]
noncomputable def kidsL (parent : Int) : List ByteArray → List Int → Pg (List Int)
 | [], out => .ret out
 | k :: ks, out => if kidKey k = true then do
  let up ← numP k
  kidsL parent ks (if up = parent then out ++ [numOfV (k.extract 2 (k.size - 2))] else out)
  else kidsL parent ks out
noncomputable def kidsP (parent : Int) : Pg (List Int) := .under rHead fun ks => kidsL parent ks []
noncomputable def sendP (dest n : Int) : Pg Int := do
 let s ← stateP dest
 if s = 1 then
  if inB n 1 31 = true then do
   let t ← numP (sigK dest tT)
   let h ← numP (sigK dest tH)
   if 4 ≤ t - h then pure 5 else
    if 999 ≤ t then pure 3 else do
     setP (sigK dest tT) (t + 1)
     setP (sigQ dest (t + 1)) n
     pure 0
  else pure 4
 else pure 2
noncomputable def takeSigP (id : Int) : Pg (Int × Int) := do
 let h ← numP (sigK id tH)
 let t ← numP (sigK id tT)
 if t = h then pure (0, 5) else do
  let n ← numP (sigQ id (h + 1))
  layP (sigQ id (h + 1)) noB
  setP (sigK id tH) (h + 1)
  pure (n, 0)
def timerP (id at_ : Int) : Pg Int :=
 if inB at_ 0 999 = true then do
  setP (timerK id) at_
  pure 0
 else pure 4
noncomputable def tickL (clock : Int) : List ByteArray → Int → Pg Int
 | [], n => .ret n
 | k :: ks, n => do
  let at_ ← numP k
  if clock < at_ then tickL clock ks n else do
   layP k noB
   let _ ← sendP (numOfV (drop2 k)) 14
   tickL clock ks (n + 1)
noncomputable def tickP (n : Int) : Pg (Int × Int) :=
 if n < 1 then pure (0, 4) else do
  let clock ← numP cClock
  if 999 - clock < n then pure (0, 3) else do
   setP cClock (clock + n)
   let ks ← underP tHead
   let x ← tickL (clock + n) ks 0
   pure (x, 0)
def storeP (id page : Int) (text : ByteArray) : Pg Int :=
 if (inB page 0 3 && decide (text.size ≤ 20)) = true then do
  layP (pageK id page) (if text.size = 0 then noB else hyphenS (hexV text))
  pure 0
 else pure 4
noncomputable def loadP (id page : Int) : Pg (ByteArray × Int) :=
 if inB page 0 3 = true then do
  let x ← msgP (pageK id page)
  pure (x, 0)
 else pure (noB, 4)
def forkL (a b : ByteArray) : List ByteArray → Pg Unit
 | [] => .ret ()
 | k :: ks => .look k fun v => .lay (b ++ k.extract a.size k.size) v (forkL a b ks)
def forkP (a b : Int) : Pg Unit := .under (pagesK a) (forkL (pagesK a) (pagesK b))
def dropPagesP (id : Int) : Pg Unit := wipeP (pagesK id)
noncomputable def putOutP (text : ByteArray) : Pg Int :=
 if inB text.size 1 20 = true then do
  let n ← numP dnK
  if 40 ≤ n then pure 3 else do
   setP dnK (n + 1)
   layP (outK1 (n + 1)) (hyphenS (hexV text))
   pure 0
 else pure 4
def spaceS : ByteArray := ⟨#[32]⟩
def wordsS (xs : List ByteArray) : ByteArray := xs.foldl (fun a x => a ++ x ++ spaceS) noB
noncomputable def fileP (c : Cal) : Pg Ans := do
 let id ← fileOfP c.name
 if id = 0 then pure ⟨2, 0, noB⟩ else
  if c.kind = 6 then do
   let t ← readP id c.a c.b
   pure ⟨0, 0, t⟩
  else
   if c.kind = 7 then do
    let x ← writeP id c.a c.text
    pure ⟨x, 0, noB⟩
   else do
    let x ← cutP id c.a
    pure ⟨x, 0, noB⟩
def ansN (x : Int × Int) : Ans := ⟨x.2, x.1, noB⟩
def ansT (x : ByteArray × Int) : Ans := ⟨x.2, 0, x.1⟩
def ansC (x : Int) : Ans := ⟨x, 0, noB⟩
noncomputable def spawnAllP (proc : Int) : Pg Ans := do
 let x ← spawnP proc
 if x.2 = 0 then do
  forkP proc x.1
  pure (ansN x)
 else pure (ansN x)
noncomputable def endAllP (proc n : Int) : Pg Ans := do
 let x ← endP proc n
 if x = 0 then do
  dropPagesP proc
  pure (ansC x)
 else pure (ansC x)
noncomputable def kindP (proc : Int) (c : Cal) : Pg Ans :=
 if c.kind = 1 then (do let x ← makeP c.name; pure (ansN x))
 else if c.kind = 2 then (do let x ← linkP c.name c.dest; pure (ansC x))
 else if c.kind = 3 then (do let x ← unlinkP c.name; pure (ansC x))
 else if c.kind = 4 then (do let x ← renameP c.name c.dest; pure (ansC x))
 else if c.kind = 5 then (do let x ← namesP; pure ⟨0, 0, wordsS x⟩)
 else if c.kind = 6 ∨ c.kind = 7 ∨ c.kind = 8 then fileP c
 else if c.kind = 9 then (do let x ← mkPipeP; pure (ansN x))
 else if c.kind = 10 then (do let x ← putPipeP c.a c.text; pure (ansC x))
 else if c.kind = 11 then (do let x ← takePipeP c.a; pure (ansT x))
 else if c.kind = 12 then spawnAllP proc
 else if c.kind = 13 then endAllP proc c.a
 else if c.kind = 14 then (do let x ← reapP proc c.a; pure (ansN x))
 else if c.kind = 15 then (do let x ← kidsP proc; pure ⟨0, 0, wordsS (x.map decS)⟩)
 else if c.kind = 16 then (do let x ← sendP c.a c.b; pure (ansC x))
 else if c.kind = 17 then (do let x ← takeSigP proc; pure (ansN x))
 else if c.kind = 18 then (do let x ← timerP proc c.a; pure (ansC x))
 else if c.kind = 19 then (do let x ← tickP c.a; pure (ansN x))
 else if c.kind = 20 then (do let x ← storeP proc c.a c.text; pure (ansC x))
 else if c.kind = 21 then (do let x ← loadP proc c.a; pure (ansT x))
 else (do let x ← putOutP c.text; pure (ansC x))
noncomputable def callP (proc : Int) (c : Cal) : Pg Ans := do
 let s ← stateP proc
 if s = 1 then
  if callOkB c = true then kindP proc c else pure ⟨4, 0, noB⟩
 else pure ⟨2, 0, noB⟩
end
section
open Go.RowKit
namespace Pg
variable {α β : Type}
def Cost : Pg α → Nat → Nat → Prop
 | .ret _, _, _ => True
 | .look _ f, n, c => ∃ d, c = d + 1 ∧ ∀ v, Cost (f v) (n + 1) d
 | .lay _ _ f, n, c => ∃ d, c = d + 1 ∧ Cost f (n + 1) d
 | .under _ f, n, c => ∃ d, c = d + 1 ∧ ∀ ks : List ByteArray, ks.length ≤ n → Cost (f ks) (n + 1) d
theorem Cost.mono2 {x : Pg α} : ∀ {n n' c d : Nat}, Cost x n c → n' ≤ n → c ≤ d → Cost x n' d := by
 induction x with
 | ret a => intro n n' c d _ _ _; exact trivial
 | look k f ih =>
  rintro n n' c d ⟨e, rfl, h⟩ hn hd;exact ⟨d - 1, by omega, fun v => ih v (h v) (by omega) (by omega)⟩
 | lay k v f ih =>
  rintro n n' c d ⟨e, rfl, h⟩ hn hd;exact ⟨d - 1, by omega, ih h (by omega) (by omega)⟩
 | under p f ih =>
  rintro n n' c d ⟨e, rfl, h⟩ hn hd;exact ⟨d - 1, by omega, fun v hv => ih v (h v (by omega)) (by omega) (by omega)⟩
theorem Cost.mono {x : Pg α} {n c d : Nat} (h : Cost x n c) (hd : c ≤ d) : Cost x n d := h.mono2 (Nat.le_refl _) hd
theorem Cost.bind0 {x : Pg α} {g : α → Pg β} {d : Nat} : ∀ {n c : Nat}, Cost x n c → (∀ v, Cost (g v) (n + c) d) → Cost (x >>= g) n (c + d) := by
 induction x with
 | ret a => intro n c _ h; exact (h a).mono2 (by omega) (by omega)
 | look k f ih =>
  rintro n c ⟨e, rfl, h⟩ hg;exact ⟨e + d, by omega, fun v => ih v (h v) (fun v => (hg v).mono2 (by omega) (by omega))⟩
 | lay k v f ih =>
  rintro n c ⟨e, rfl, h⟩ hg;exact ⟨e + d, by omega, ih h (fun v => (hg v).mono2 (by omega) (by omega))⟩
 | under p f ih =>
  rintro n c ⟨e, rfl, h⟩ hg;exact ⟨e + d, by omega, fun v hv => ih v (h v hv) (fun v => (hg v).mono2 (by omega) (by omega))⟩
theorem Cost.bind {x : Pg α} {g : α → Pg β} {n c d : Nat} (h : Cost x n c) (hc : c ≤ d) (hg : ∀ v, Cost (g v) (n + c) (d - c)) : Cost (x >>= g) n d := (Cost.bind0 h hg).mono (by omega)
theorem Cost.pure {n c : Nat} (a : α) : Cost (Pure.pure a : Pg α) n c := trivial
theorem Cost.ite {p : Prop} [Decidable p] {x y : Pg α} {n c : Nat} (hx : Cost x n c) (hy : Cost y n c) : Cost (if p then x else y) n c := by
 split
 ·exact hx
 ·exact hy
theorem Cost.ok {x : Pg α} : ∀ {n c : Nat} {m : Mch}, Cost x n c → MOk n m → MOk (n + c) (x.run m).1 := by
 induction x with
 | ret a => intro n c m _ h; exact h.mono (by omega)
 | look k f ih =>
  rintro n c m ⟨e, rfl, h⟩ ho;exact (ih _ (h _) (ho.look k)).mono (by omega)
 | lay k v f ih =>
  rintro n c m ⟨e, rfl, h⟩ ho;exact (ih h (ho.lay k v)).mono (by omega)
 | under p f ih =>
  rintro n c m ⟨e, rfl, h⟩ ho;exact (ih _ (h _ (Nat.le_trans (keysU_len _ _) ho.l1)) (ho.look _)).mono (by omega)
theorem Cost.okE {x : Pg α} {v : α} {n c : Nat} {m m' : Mch} (h : Cost x n c) (ho : MOk n m) (E : x.run m = (m', v)) : MOk (n + c) m' := by
 have := h.ok ho;rw [E] at this;exact this
end Pg
open Pg
variable {N : Nat}
theorem lookP_cost (k : ByteArray) : Cost (lookP k) N 1 := ⟨0, rfl, fun _ => trivial⟩
theorem layP_cost (k v : ByteArray) : Cost (layP k v) N 1 := ⟨0, rfl, trivial⟩
theorem underP_cost (p : ByteArray) : Cost (underP p) N 1 := ⟨0, rfl, fun _ _ => trivial⟩
theorem numP_cost (k : ByteArray) : Cost (numP k) N 1 := ⟨0, rfl, fun _ => trivial⟩
theorem msgP_cost (k : ByteArray) : Cost (msgP k) N 1 := ⟨0, rfl, fun _ => trivial⟩
theorem blockP_cost (i j : Int) : Cost (blockP i j) N 1 := ⟨0, rfl, fun _ => trivial⟩
theorem setP_cost (k : ByteArray) (n : Int) : Cost (setP k n) N 1 := ⟨0, rfl, trivial⟩
theorem layAll_cost : ∀ (ks : List ByteArray) {N : Nat}, Cost (layAll ks) N ks.length
 | [], _ => trivial
 | _ :: ks, _ => ⟨ks.length, rfl, layAll_cost ks⟩
theorem wipeP_cost (p : ByteArray) : Cost (wipeP p) N (N + 1) := ⟨N, rfl, fun ks h => (layAll_cost ks).mono h⟩
theorem namesP_cost : Cost namesP N 1 := ⟨0, rfl, fun _ _ => trivial⟩
theorem co9 {P : Prop} (h : P := by repeat' first | exact Cost.pure _ | with_reducible refine Cost.bind (numP_cost _) (by omega) (fun _ => ?_) | with_reducible exact (numP_cost _).mono (by omega) | exact trivial | with_reducible refine Cost.bind (setP_cost _ _) (by omega) (fun _ => ?_) | with_reducible exact (setP_cost _ _).mono (by omega) | with_reducible refine Cost.bind (fileOfP_cost _) (by omega) (fun _ => ?_) | with_reducible exact (fileOfP_cost _).mono (by omega) | with_reducible refine Cost.bind (bumpP_cost _) (by omega) (fun _ => ?_) | with_reducible exact (bumpP_cost _).mono (by omega) | with_reducible refine Cost.bind (layP_cost _ _) (by omega) (fun _ => ?_) | with_reducible exact (layP_cost _ _).mono (by omega) | with_reducible refine Cost.bind (wipeP_cost _) (by omega) (fun _ => ?_) | with_reducible exact (wipeP_cost _).mono (by omega) | with_reducible refine Cost.bind (unlinkP_cost _) (by omega) (fun _ => ?_) | with_reducible exact (unlinkP_cost _).mono (by omega) | with_reducible refine Cost.bind (readL_cost _ _ _ _ _ _) (by omega) (fun _ => ?_) | with_reducible exact (readL_cost _ _ _ _ _ _).mono (by omega) | with_reducible refine Cost.bind (writeL_cost _ _ _ _ _ _) (by omega) (fun _ => ?_) | with_reducible exact (writeL_cost _ _ _ _ _ _).mono (by omega) | with_reducible refine Cost.bind (blockP_cost _ _) (by omega) (fun _ => ?_) | with_reducible exact (blockP_cost _ _).mono (by omega) | with_reducible refine Cost.bind (cutL_cost _ _ _ _) (by omega) (fun _ => ?_) | with_reducible exact (cutL_cost _ _ _ _).mono (by omega) | with_reducible refine Cost.bind (isPipeP_cost _) (by omega) (fun _ => ?_) | with_reducible exact (isPipeP_cost _).mono (by omega) | with_reducible refine Cost.bind (msgP_cost _) (by omega) (fun _ => ?_) | with_reducible exact (msgP_cost _).mono (by omega) | with_reducible refine Cost.bind (stateP_cost _) (by omega) (fun _ => ?_) | with_reducible exact (stateP_cost _).mono (by omega) | with_reducible refine Cost.bind (readP_cost _ _ _) (by omega) (fun _ => ?_) | with_reducible exact (readP_cost _ _ _).mono (by omega) | with_reducible refine Cost.bind (writeP_cost _ _ _) (by omega) (fun _ => ?_) | with_reducible exact (writeP_cost _ _ _).mono (by omega) | with_reducible refine Cost.bind (cutP_cost _ _) (by omega) (fun _ => ?_) | with_reducible exact (cutP_cost _ _).mono (by omega) | with_reducible refine Cost.bind (spawnP_cost _) (by omega) (fun _ => ?_) | with_reducible exact (spawnP_cost _).mono (by omega) | with_reducible refine Cost.bind (forkP_cost _ _) (by omega) (fun _ => ?_) | with_reducible exact (forkP_cost _ _).mono (by omega) | with_reducible refine Cost.bind (endP_cost _ _) (by omega) (fun _ => ?_) | with_reducible exact (endP_cost _ _).mono (by omega) | with_reducible refine Cost.bind (dropPagesP_cost _) (by omega) (fun _ => ?_) | with_reducible exact (dropPagesP_cost _).mono (by omega) | with_reducible refine Cost.bind (namesP_cost) (by omega) (fun _ => ?_) | with_reducible exact (namesP_cost).mono (by omega) | with_reducible refine Cost.bind (makeP_cost _) (by omega) (fun _ => ?_) | with_reducible exact (makeP_cost _).mono (by omega) | with_reducible refine Cost.bind (linkP_cost _ _) (by omega) (fun _ => ?_) | with_reducible exact (linkP_cost _ _).mono (by omega) | with_reducible refine Cost.bind (renameP_cost _ _) (by omega) (fun _ => ?_) | with_reducible exact (renameP_cost _ _).mono (by omega) | with_reducible refine Cost.bind (mkPipeP_cost) (by omega) (fun _ => ?_) | with_reducible exact (mkPipeP_cost).mono (by omega) | with_reducible refine Cost.bind (putPipeP_cost _ _) (by omega) (fun _ => ?_) | with_reducible exact (putPipeP_cost _ _).mono (by omega) | with_reducible refine Cost.bind (takePipeP_cost _) (by omega) (fun _ => ?_) | with_reducible exact (takePipeP_cost _).mono (by omega) | with_reducible refine Cost.bind (reapP_cost _ _) (by omega) (fun _ => ?_) | with_reducible exact (reapP_cost _ _).mono (by omega) | with_reducible refine Cost.bind (kidsP_cost _) (by omega) (fun _ => ?_) | with_reducible exact (kidsP_cost _).mono (by omega) | with_reducible refine Cost.bind (sendP_cost _ _) (by omega) (fun _ => ?_) | with_reducible exact (sendP_cost _ _).mono (by omega) | with_reducible refine Cost.bind (takeSigP_cost _) (by omega) (fun _ => ?_) | with_reducible exact (takeSigP_cost _).mono (by omega) | with_reducible refine Cost.bind (timerP_cost _ _) (by omega) (fun _ => ?_) | with_reducible exact (timerP_cost _ _).mono (by omega) | with_reducible refine Cost.bind (tickP_cost _) (by omega) (fun _ => ?_) | with_reducible exact (tickP_cost _).mono (by omega) | with_reducible refine Cost.bind (storeP_cost _ _ _) (by omega) (fun _ => ?_) | with_reducible exact (storeP_cost _ _ _).mono (by omega) | with_reducible refine Cost.bind (loadP_cost _ _) (by omega) (fun _ => ?_) | with_reducible exact (loadP_cost _ _).mono (by omega) | with_reducible refine Cost.bind (putOutP_cost _) (by omega) (fun _ => ?_) | with_reducible exact (putOutP_cost _).mono (by omega) | with_reducible refine Cost.bind (fileP_cost _) (by omega) (fun _ => ?_) | with_reducible exact (fileP_cost _).mono (by omega) | with_reducible refine Cost.bind (spawnAllP_cost _) (by omega) (fun _ => ?_) | with_reducible exact (spawnAllP_cost _).mono (by omega) | with_reducible refine Cost.bind (endAllP_cost _ _) (by omega) (fun _ => ?_) | with_reducible exact (endAllP_cost _ _).mono (by omega) | with_reducible refine Cost.bind (kindP_cost _ _) (by omega) (fun _ => ?_) | with_reducible exact (kindP_cost _ _).mono (by omega) | with_reducible refine Cost.ite ?_ ?_) : P := h
theorem fileOfP_cost (a : ByteArray) : Cost (fileOfP a) N (1) := by
 unfold fileOfP;exact co9
theorem bumpP_cost (a : ByteArray) : Cost (bumpP a) N (2) := by
 unfold bumpP;exact co9
theorem makeP_cost (a : ByteArray) : Cost (makeP a) N (6) := by
 unfold makeP;exact co9
theorem linkP_cost (a b : ByteArray) : Cost (linkP a b) N (5) := by
 unfold linkP;exact co9
theorem unlinkP_cost (a : ByteArray) : Cost (unlinkP a) N (N + 7) := by
 unfold unlinkP;exact co9
theorem renameP_cost (a b : ByteArray) : Cost (renameP a b) N (N + 13) := by
 unfold renameP;exact co9
theorem readL_cost (id a e : Int) : ∀ (n : Nat) (p : Int) (s : ByteArray) {N : Nat}, Cost (readL id a e n p s) N n
 | 0, _, _, _ => trivial
 | n + 1, _, _, _ => by
  unfold readL;refine Cost.ite ?_ trivial;exact Cost.bind (blockP_cost _ _) (by omega) (fun _ => readL_cost id a e n _ _)
theorem writeL_cost (id a e : Int) (t : ByteArray) : ∀ (n : Nat) (p : Int) {N : Nat}, Cost (writeL id a e t n p) N (2 * n)
 | 0, _, _ => trivial
 | n + 1, _, _ => by
  unfold writeL;refine Cost.ite ?_ trivial;refine Cost.bind (blockP_cost _ _) (by omega) (fun _ => ?_);refine Cost.bind (layP_cost _ _) (by omega) (fun _ => ?_);exact (writeL_cost id a e t n _).mono (by omega)
theorem cutL_cost (id s : Int) : ∀ (n : Nat) (p : Int) {N : Nat}, Cost (cutL id s n p) N n
 | 0, _, _ => trivial
 | n + 1, _, _ => by
  unfold cutL;exact Cost.ite ⟨n, rfl, cutL_cost id s n _⟩ trivial
theorem readP_cost (a b c : Int) : Cost (readP a b c) N (201) := by
 unfold readP;exact co9
theorem writeP_cost (a b : Int) (t : ByteArray) : Cost (writeP a b t) N (42) := by
 unfold writeP;exact co9
theorem cutP_cost (a b : Int) : Cost (cutP a b) N (204) := by
 unfold cutP;exact co9
theorem mkPipeP_cost  : Cost (mkPipeP ) N (4) := by
 unfold mkPipeP;exact co9
theorem isPipeP_cost (a : Int) : Cost (isPipeP a) N (1) := by
 unfold isPipeP;exact co9
theorem putPipeP_cost (a : Int) (t : ByteArray) : Cost (putPipeP a t) N (5) := by
 unfold putPipeP;exact co9
theorem takePipeP_cost (a : Int) : Cost (takePipeP a) N (6) := by
 unfold takePipeP;exact co9
theorem stateP_cost (a : Int) : Cost (stateP a) N (1) := by
 unfold stateP;exact co9
theorem spawnP_cost (a : Int) : Cost (spawnP a) N (5) := by
 unfold spawnP;exact co9
theorem endP_cost (a b : Int) : Cost (endP a b) N (3) := by
 unfold endP;exact co9
theorem reapP_cost (a b : Int) : Cost (reapP a b) N (N + 7) := by
 unfold reapP;exact co9
theorem kidsL_cost (p : Int) : ∀ (ks : List ByteArray) (o : List Int) {N : Nat}, Cost (kidsL p ks o) N ks.length
 | [], _, _ => trivial
 | k :: ks, _, _ => by
  unfold kidsL;refine Cost.ite ?_ ((kidsL_cost p ks _).mono (by simp));refine Cost.bind (numP_cost _) (by simp) (fun _ => ?_);exact (kidsL_cost p ks _).mono (by simp)
theorem kidsP_cost (p : Int) : Cost (kidsP p) N (N + 1) := ⟨N, rfl, fun ks h => (kidsL_cost p ks []).mono h⟩
theorem sendP_cost (a b : Int) : Cost (sendP a b) N (5) := by
 unfold sendP;exact co9
theorem takeSigP_cost (a : Int) : Cost (takeSigP a) N (5) := by
 unfold takeSigP;exact co9
theorem timerP_cost (a b : Int) : Cost (timerP a b) N (1) := by
 unfold timerP;exact co9
theorem tickL_cost (c : Int) : ∀ (ks : List ByteArray) (o : Int) {N : Nat}, Cost (tickL c ks o) N (7 * ks.length)
 | [], _, _ => trivial
 | k :: ks, _, _ => by
  unfold tickL;simp only [List.length_cons];refine Cost.bind (numP_cost _) (by omega) (fun _ => ?_);refine Cost.ite ((tickL_cost c ks _).mono (by omega)) ?_;refine Cost.bind (layP_cost _ _) (by omega) (fun _ => ?_);refine Cost.bind (sendP_cost _ _) (by omega) (fun _ => ?_);exact (tickL_cost c ks _).mono (by omega)
theorem tickP_cost (n : Int) : Cost (tickP n) N (7 * N + 17) := by
 unfold tickP;refine Cost.ite (Cost.pure _) ?_;refine Cost.bind (numP_cost _) (by omega) (fun _ => ?_);refine Cost.ite (Cost.pure _) ?_;refine Cost.bind (setP_cost _ _) (by omega) (fun _ => ?_);refine ⟨7 * N + 14, by omega, fun ks h => ?_⟩;refine Cost.bind0 (c := 7 * ks.length) (d := 0) (tickL_cost _ ks 0) (fun _ => Cost.pure _) |>.mono ?_
 omega
theorem storeP_cost (a b : Int) (t : ByteArray) : Cost (storeP a b t) N (1) := by
 unfold storeP;exact co9
theorem loadP_cost (a b : Int) : Cost (loadP a b) N (1) := by
 unfold loadP;exact co9
theorem forkL_cost (a b : ByteArray) : ∀ (ks : List ByteArray) {N : Nat}, Cost (forkL a b ks) N (2 * ks.length)
 | [], _ => trivial
 | _ :: ks, _ => ⟨2 * ks.length + 1, by simp; omega, fun _ => ⟨2 * ks.length, rfl, forkL_cost a b ks⟩⟩
theorem forkP_cost (a b : Int) : Cost (forkP a b) N (2 * N + 1) := ⟨2 * N, rfl, fun ks h => (forkL_cost _ _ ks).mono (by omega)⟩
theorem dropPagesP_cost (a : Int) : Cost (dropPagesP a) N (N + 1) := by
 unfold dropPagesP;exact co9
theorem putOutP_cost (t : ByteArray) : Cost (putOutP t) N (3) := by
 unfold putOutP;exact co9
theorem fileP_cost (c : Cal) : Cost (fileP c) N (205) := by
 unfold fileP;exact co9
theorem spawnAllP_cost (a : Int) : Cost (spawnAllP a) N (2 * N + 16) := by
 unfold spawnAllP;exact co9
theorem endAllP_cost (a b : Int) : Cost (endAllP a b) N (N + 7) := by
 unfold endAllP;exact co9
theorem kindP_cost (p : Int) (c : Cal) : Cost (kindP p c) N (7 * N + 300) := by
 unfold kindP;exact co9
theorem callP_cost (p : Int) (c : Cal) : Cost (callP p c) N (7 * N + 308) := by
 unfold callP;exact co9
theorem numP_bounds {m m' : Mch} {k : ByteArray} {x : Int} (E : (numP k).run m = (m', x)) : 0 ≤ x ∧ x ≤ 999 := by
 have h := numOf_bounds (getKeyS m.st k);have e : numOfV (getKeyS m.st k) = x := congrArg Prod.snd E;omega
theorem bump_run (m : Mch) (k : ByteArray) : (bumpP k).run m = (bumpM m k, bumpN m k) := by
 unfold bumpP bumpM bumpN nextN;rw [Pg.run_bind];show Pg.run (if 999 < numOfV (getKeyS m.st k) + 1 then _ else _) (lookM m k) = _;split
 ·rfl
 ·rfl
theorem bumpP_bounds {m m' : Mch} {k : ByteArray} {x : Int} (E : (bumpP k).run m = (m', x)) : 0 ≤ x ∧ x ≤ 999 := by
 rw [bump_run] at E;have h := bumpN_bounds m k;have e : bumpN m k = x := congrArg Prod.snd E;omega
theorem fileOfP_bounds {m m' : Mch} {k : ByteArray} {x : Int} (E : (fileOfP k).run m = (m', x)) : 0 ≤ x ∧ x ≤ 999 := by
 unfold fileOfP at E;split at E
 ·exact numP_bounds E
 ·cases E; omega
end
section
open Go.RowKit
attribute [local go_sem ↓] Go.wp_at_zero Go.wp_at_succ
structure I64 (n : Int) : Prop where
 lo : -9223372036854775808 ≤ n
 hi : n ≤ 9223372036854775807
theorem i64_of {n : Int} (h : 0 ≤ n ∧ n ≤ 999) : I64 n := ⟨by omega, by omega⟩
theorem i64_succ {n : Int} (h : 0 ≤ n ∧ n ≤ 999) : I64 (n + 1) := ⟨by omega, by omega⟩
theorem linksK_size {id : Int} (hn : I64 id) : (linksK id).size ≤ 1000 := by
 have h := keyNumS_size ⟨#[105, 47]⟩ id ⟨#[47, 108]⟩ hn.lo hn.hi;have e1 : (⟨#[105, 47]⟩ : ByteArray).size = 2 := rfl;have e2 : (⟨#[47, 108]⟩ : ByteArray).size = 2 := rfl;unfold linksK; omega
theorem sizeK_size {id : Int} (hn : I64 id) : (sizeK id).size ≤ 1000 := by
 have h := keyNumS_size ⟨#[105, 47]⟩ id ⟨#[47, 115]⟩ hn.lo hn.hi;have e1 : (⟨#[105, 47]⟩ : ByteArray).size = 2 := rfl;have e2 : (⟨#[47, 115]⟩ : ByteArray).size = 2 := rfl;unfold sizeK; omega
theorem fileK_size {id : Int} (hn : I64 id) : (fileK id).size ≤ 1000 := by
 have h := keyNumS_size ⟨#[105, 47]⟩ id ⟨#[47]⟩ hn.lo hn.hi;have e1 : (⟨#[105, 47]⟩ : ByteArray).size = 2 := rfl;have e2 : (⟨#[47]⟩ : ByteArray).size = 1 := rfl;unfold fileK; omega
theorem timerK_size {id : Int} (hn : I64 id) : (timerK id).size ≤ 1000 := by
 have h := keyNumS_size ⟨#[116, 47]⟩ id ⟨#[]⟩ hn.lo hn.hi;have e1 : (⟨#[116, 47]⟩ : ByteArray).size = 2 := rfl;have e2 : (⟨#[]⟩ : ByteArray).size = 0 := rfl;unfold timerK; omega
theorem pagesK_size {id : Int} (hn : I64 id) : (pagesK id).size ≤ 1000 := by
 have h := keyNumS_size ⟨#[109, 47]⟩ id ⟨#[47]⟩ hn.lo hn.hi;have e1 : (⟨#[109, 47]⟩ : ByteArray).size = 2 := rfl;have e2 : (⟨#[47]⟩ : ByteArray).size = 1 := rfl;unfold pagesK; omega
theorem pipeK_size {id : Int} {t : ByteArray} (hn : I64 id) (ht : t.size ≤ 100) : (pipeK id t).size ≤ 1000 := by
 have h := keyNumS_size ⟨#[112, 47]⟩ id t hn.lo hn.hi;have e1 : (⟨#[112, 47]⟩ : ByteArray).size = 2 := rfl;unfold pipeK; omega
theorem sigK_size {id : Int} {t : ByteArray} (hn : I64 id) (ht : t.size ≤ 100) : (sigK id t).size ≤ 1000 := by
 have h := keyNumS_size ⟨#[103, 47]⟩ id t hn.lo hn.hi;have e1 : (⟨#[103, 47]⟩ : ByteArray).size = 2 := rfl;unfold sigK; omega
theorem procK_size2 {id : Int} {t : ByteArray} (hn : I64 id) (ht : t.size ≤ 100) : (procK id t).size ≤ 1000 := procK_size id t hn.lo hn.hi ht
theorem blockK_size {id k : Int} (hn : I64 id) (hk : I64 k) : (blockK id k).size ≤ 1000 := by
 have h := keyNumS_size (keyNumS ⟨#[105, 47]⟩ id ⟨#[47, 98, 47]⟩) k ⟨#[]⟩ hk.lo hk.hi;have h2 := keyNumS_size ⟨#[105, 47]⟩ id ⟨#[47, 98, 47]⟩ hn.lo hn.hi;have e2 : (⟨#[105, 47]⟩ : ByteArray).size = 2 := rfl;have e3 : (⟨#[47, 98, 47]⟩ : ByteArray).size = 3 := rfl;have e1 : (⟨#[]⟩ : ByteArray).size = 0 := rfl;unfold blockK; omega
theorem pipeQ_size {id k : Int} (hn : I64 id) (hk : I64 k) : (pipeQ id k).size ≤ 1000 := by
 have h := keyNumS_size (pipeK id ⟨#[47, 113, 47]⟩) k ⟨#[]⟩ hk.lo hk.hi;have h2 : (pipeK id ⟨#[47, 113, 47]⟩).size ≤ _ := keyNumS_size ⟨#[112, 47]⟩ id ⟨#[47, 113, 47]⟩ hn.lo hn.hi;have e2 : (⟨#[112, 47]⟩ : ByteArray).size = 2 := rfl;have e3 : (⟨#[47, 113, 47]⟩ : ByteArray).size = 3 := rfl;have e1 : (⟨#[]⟩ : ByteArray).size = 0 := rfl;unfold pipeQ; omega
theorem sigQ_size {id k : Int} (hn : I64 id) (hk : I64 k) : (sigQ id k).size ≤ 1000 := by
 have h := keyNumS_size (sigK id ⟨#[47, 113, 47]⟩) k ⟨#[]⟩ hk.lo hk.hi;have h2 : (sigK id ⟨#[47, 113, 47]⟩).size ≤ _ := keyNumS_size ⟨#[103, 47]⟩ id ⟨#[47, 113, 47]⟩ hn.lo hn.hi;have e2 : (⟨#[103, 47]⟩ : ByteArray).size = 2 := rfl;have e3 : (⟨#[47, 113, 47]⟩ : ByteArray).size = 3 := rfl;have e1 : (⟨#[]⟩ : ByteArray).size = 0 := rfl;unfold sigQ; omega
theorem pageK_size {id k : Int} (hn : I64 id) (hk : I64 k) : (pageK id k).size ≤ 1000 := by
 have h := keyNumS_size (pagesK id) k ⟨#[]⟩ hk.lo hk.hi;have h2 : (pagesK id).size ≤ _ := keyNumS_size ⟨#[109, 47]⟩ id ⟨#[47]⟩ hn.lo hn.hi;have e2 : (⟨#[109, 47]⟩ : ByteArray).size = 2 := rfl;have e3 : (⟨#[47]⟩ : ByteArray).size = 1 := rfl;have e1 : (⟨#[]⟩ : ByteArray).size = 0 := rfl;unfold pageK; omega
theorem outK1_size {id : Int} (hn : I64 id) : (outK1 id).size ≤ 1000 := by
 have h := keyNumS_size dK id ⟨#[]⟩ hn.lo hn.hi;have e1 : dK.size = 2 := rfl;have e2 : (⟨#[]⟩ : ByteArray).size = 0 := rfl;unfold outK1; omega
theorem nK_size {s : ByteArray} : (nK s).size = 2 + s.size := by
 unfold nK; rw [ByteArray.size_append]; rfl
theorem hexV_size (s : ByteArray) : (hexV s).size ≤ 40000 := by
 unfold hexV;split
 ·rename_i h;have := hexS_size s;omega
 ·exact Nat.zero_le _
theorem hyphenS_size {s : ByteArray} : (hyphenS s).size = 1 + s.size := by
 unfold hyphenS; rw [ByteArray.size_append]; rfl
theorem linksKey_c (id : Int) (W : World) (hn : I64 id) (hT : Tabs W) :
 Calls prog 156 #[.int .i64 id] W fun e w' => e = .returned (.string (linksK id)) ∧ Below W.heap.size W w' := by
 have K := hid9 (implKeyNum_c ⟨#[105, 47]⟩ id ⟨#[47, 108]⟩ W hn.lo hn.hi (by decide) (by decide) hT.1);clear hn hT;go_enter func156, ntmps156;go_wp2_with fail;refine K.out.mono ?_;rintro e w1 ⟨rfl, hb⟩;go_wp2;go_ret;exact ⟨rfl, hb⟩
theorem sizeKey_c (id : Int) (W : World) (hn : I64 id) (hT : Tabs W) :
 Calls prog 204 #[.int .i64 id] W fun e w' => e = .returned (.string (sizeK id)) ∧ Below W.heap.size W w' := by
 have K := hid9 (implKeyNum_c ⟨#[105, 47]⟩ id ⟨#[47, 115]⟩ W hn.lo hn.hi (by decide) (by decide) hT.1);clear hn hT;go_enter func204, ntmps204;go_wp2_with fail;refine K.out.mono ?_;rintro e w1 ⟨rfl, hb⟩;go_wp2;go_ret;exact ⟨rfl, hb⟩
theorem pagesKey_c (id : Int) (W : World) (hn : I64 id) (hT : Tabs W) :
 Calls prog 168 #[.int .i64 id] W fun e w' => e = .returned (.string (pagesK id)) ∧ Below W.heap.size W w' := by
 have K := hid9 (implKeyNum_c ⟨#[109, 47]⟩ id ⟨#[47]⟩ W hn.lo hn.hi (by decide) (by decide) hT.1);clear hn hT;go_enter func168, ntmps168;go_wp2_with fail;refine K.out.mono ?_;rintro e w1 ⟨rfl, hb⟩;go_wp2;go_ret;exact ⟨rfl, hb⟩
theorem pipeKey_c (id : Int) (t : ByteArray) (W : World) (hn : I64 id) (ht : t.size ≤ 100) (hT : Tabs W) :
 Calls prog 164 #[.int .i64 id, .string t] W fun e w' => e = .returned (.string (pipeK id t)) ∧ Below W.heap.size W w' := by
 have K := hid9 (implKeyNum_c ⟨#[112, 47]⟩ id t W hn.lo hn.hi (by decide) (by omega) hT.1);clear hn hT;go_enter func164, ntmps164;go_wp2_with fail;refine K.out.mono ?_;rintro e w1 ⟨rfl, hb⟩;go_wp2;go_ret;exact ⟨rfl, hb⟩
theorem signalKey_c (id : Int) (t : ByteArray) (W : World) (hn : I64 id) (ht : t.size ≤ 100) (hT : Tabs W) :
 Calls prog 173 #[.int .i64 id, .string t] W fun e w' => e = .returned (.string (sigK id t)) ∧ Below W.heap.size W w' := by
 have K := hid9 (implKeyNum_c ⟨#[103, 47]⟩ id t W hn.lo hn.hi (by decide) (by omega) hT.1);clear hn hT;go_enter func173, ntmps173;go_wp2_with fail;refine K.out.mono ?_;rintro e w1 ⟨rfl, hb⟩;go_wp2;go_ret;exact ⟨rfl, hb⟩
theorem l08Key_c (id : Int) (t : ByteArray) (W : World) (hn : I64 id) (ht : t.size ≤ 100) :
 Calls prog 183 #[.int .i64 id, .string t] W fun e w' => e = .returned (.string (pipeK id t)) ∧ Below W.heap.size W w' := by
 have K := hid9 (specKeyNum_c ⟨#[112, 47]⟩ id t W hn.lo hn.hi (by decide) (by omega));clear hn;go_enter func183, ntmps183;go_wp2_with fail;refine K.out.mono ?_;rintro e w1 ⟨rfl, hb⟩;go_wp2;go_ret;exact ⟨rfl, hb⟩
theorem l09Key_c (id : Int) (t : ByteArray) (W : World) (hn : I64 id) (ht : t.size ≤ 100) :
 Calls prog 150 #[.int .i64 id, .string t] W fun e w' => e = .returned (.string (procK id t)) ∧ Below W.heap.size W w' := by
 have K := hid9 (specKeyNum_c ⟨#[114, 47]⟩ id t W hn.lo hn.hi (by decide) (by omega));clear hn;go_enter func150, ntmps150;go_wp2_with fail;refine K.out.mono ?_;rintro e w1 ⟨rfl, hb⟩;go_wp2;go_ret;exact ⟨rfl, hb⟩
theorem l10Key_c (id : Int) (t : ByteArray) (W : World) (hn : I64 id) (ht : t.size ≤ 100) :
 Calls prog 189 #[.int .i64 id, .string t] W fun e w' => e = .returned (.string (sigK id t)) ∧ Below W.heap.size W w' := by
 have K := hid9 (specKeyNum_c ⟨#[103, 47]⟩ id t W hn.lo hn.hi (by decide) (by omega));clear hn;go_enter func189, ntmps189;go_wp2_with fail;refine K.out.mono ?_;rintro e w1 ⟨rfl, hb⟩;go_wp2;go_ret;exact ⟨rfl, hb⟩
theorem l11Head_c (id : Int) (W : World) (hn : I64 id) :
 Calls prog 193 #[.int .i64 id] W fun e w' => e = .returned (.string (pagesK id)) ∧ Below W.heap.size W w' := by
 have K := hid9 (specKeyNum_c ⟨#[109, 47]⟩ id ⟨#[47]⟩ W hn.lo hn.hi (by decide) (by decide));clear hn;go_enter func193, ntmps193;go_wp2_with fail;refine K.out.mono ?_;rintro e w1 ⟨rfl, hb⟩;go_wp2;go_ret;exact ⟨rfl, hb⟩
theorem blockKey_c (id k : Int) (W : World) (hn : I64 id) (hk : I64 k) (hT : Tabs W) :
 Calls prog 206 #[.int .i64 id, .int .i64 k] W fun e w' => e = .returned (.string (blockK id k)) ∧ Below W.heap.size W w' := by
 have K := hid9 (implKeyNum_c ⟨#[105, 47]⟩ id ⟨#[47, 98, 47]⟩ W hn.lo hn.hi (by decide) (by decide) hT.1);obtain ⟨x, hx⟩ : ∃ x, keyNumS ⟨#[105, 47]⟩ id ⟨#[47, 98, 47]⟩ = x := ⟨_, rfl⟩;have hs : x.size ≤ 1000 := by rw [← hx]; have h2 := keyNumS_size ⟨#[105, 47]⟩ id ⟨#[47, 98, 47]⟩ hn.lo hn.hi; have e2 : (⟨#[105, 47]⟩ : ByteArray).size = 2 := rfl; have e3 : (⟨#[47, 98, 47]⟩ : ByteArray).size = 3 := rfl; omega
 have HK := hid9 (show blockK id k = keyNumS x k ⟨#[]⟩ by rw [← hx]; rfl);rw [hx] at K;have K2 := hid9 (fun w (hb : Below W.heap.size W w) => implKeyNum_c x k ⟨#[]⟩ w hk.lo hk.hi (by omega) (by decide) (hT.below hb).1);clear hn hk hx hs;go_enter func206, ntmps206;go_wp2_with fail;refine K.out.mono ?_;rintro e w1 ⟨rfl, hb⟩;have HB := hid9 hb;clear hb;go_wp2_with fail;refine (K2.out _ HB.out).mono ?_;rintro e w2 ⟨rfl, hb⟩;go_wp2;go_ret;exact ⟨by rw [HK.out]; rfl, HB.out.trans (hb.mono HB.out.size)⟩
theorem l07Block_c (id k : Int) (W : World) (hn : I64 id) (hk : I64 k) :
 Calls prog 217 #[.int .i64 id, .int .i64 k] W fun e w' => e = .returned (.string (blockK id k)) ∧ Below W.heap.size W w' := by
 have K := hid9 (specKeyNum_c ⟨#[105, 47]⟩ id ⟨#[47, 98, 47]⟩ W hn.lo hn.hi (by decide) (by decide));obtain ⟨x, hx⟩ : ∃ x, keyNumS ⟨#[105, 47]⟩ id ⟨#[47, 98, 47]⟩ = x := ⟨_, rfl⟩;have hs : x.size ≤ 1000 := by rw [← hx]; have h2 := keyNumS_size ⟨#[105, 47]⟩ id ⟨#[47, 98, 47]⟩ hn.lo hn.hi; have e2 : (⟨#[105, 47]⟩ : ByteArray).size = 2 := rfl; have e3 : (⟨#[47, 98, 47]⟩ : ByteArray).size = 3 := rfl; omega
 have HK := hid9 (show blockK id k = keyNumS x k ⟨#[]⟩ by rw [← hx]; rfl);rw [hx] at K;have K2 := hid9 (fun w (hb : Below W.heap.size W w) => specKeyNum_c x k ⟨#[]⟩ w hk.lo hk.hi (by omega) (by decide));clear hn hk hx hs;go_enter func217, ntmps217;go_wp2_with fail;refine K.out.mono ?_;rintro e w1 ⟨rfl, hb⟩;have HB := hid9 hb;clear hb;go_wp2_with fail;refine (K2.out _ HB.out).mono ?_;rintro e w2 ⟨rfl, hb⟩;go_wp2;go_ret;exact ⟨by rw [HK.out]; rfl, HB.out.trans (hb.mono HB.out.size)⟩
theorem l08Message_c (id k : Int) (W : World) (hn : I64 id) (hk : I64 k) :
 Calls prog 186 #[.int .i64 id, .int .i64 k] W fun e w' => e = .returned (.string (pipeQ id k)) ∧ Below W.heap.size W w' := by
 have K := hid9 (l08Key_c id ⟨#[47, 113, 47]⟩ W hn (by decide));obtain ⟨x, hx⟩ : ∃ x, pipeK id ⟨#[47, 113, 47]⟩ = x := ⟨_, rfl⟩;have hs : x.size ≤ 1000 := by rw [← hx]; exact pipeK_size hn (by decide)
 have HK := hid9 (show pipeQ id k = keyNumS x k ⟨#[]⟩ by rw [← hx]; rfl);rw [hx] at K;have K2 := hid9 (fun w (hb : Below W.heap.size W w) => specKeyNum_c x k ⟨#[]⟩ w hk.lo hk.hi (by omega) (by decide));clear hn hk hx hs;go_enter func186, ntmps186;go_wp2_with fail;refine K.out.mono ?_;rintro e w1 ⟨rfl, hb⟩;have HB := hid9 hb;clear hb;go_wp2_with fail;refine (K2.out _ HB.out).mono ?_;rintro e w2 ⟨rfl, hb⟩;go_wp2;go_ret;exact ⟨by rw [HK.out]; rfl, HB.out.trans (hb.mono HB.out.size)⟩
theorem l10Signal_c (id k : Int) (W : World) (hn : I64 id) (hk : I64 k) :
 Calls prog 190 #[.int .i64 id, .int .i64 k] W fun e w' => e = .returned (.string (sigQ id k)) ∧ Below W.heap.size W w' := by
 have K := hid9 (l10Key_c id ⟨#[47, 113, 47]⟩ W hn (by decide));obtain ⟨x, hx⟩ : ∃ x, sigK id ⟨#[47, 113, 47]⟩ = x := ⟨_, rfl⟩;have hs : x.size ≤ 1000 := by rw [← hx]; exact sigK_size hn (by decide)
 have HK := hid9 (show sigQ id k = keyNumS x k ⟨#[]⟩ by rw [← hx]; rfl);rw [hx] at K;have K2 := hid9 (fun w (hb : Below W.heap.size W w) => specKeyNum_c x k ⟨#[]⟩ w hk.lo hk.hi (by omega) (by decide));clear hn hk hx hs;go_enter func190, ntmps190;go_wp2_with fail;refine K.out.mono ?_;rintro e w1 ⟨rfl, hb⟩;have HB := hid9 hb;clear hb;go_wp2_with fail;refine (K2.out _ HB.out).mono ?_;rintro e w2 ⟨rfl, hb⟩;go_wp2;go_ret;exact ⟨by rw [HK.out]; rfl, HB.out.trans (hb.mono HB.out.size)⟩
theorem nameKey_c (s : ByteArray) (W : World) (hs : s.size ≤ 281474976710656) :
 Calls prog 155 #[.string s] W fun e w' => e = .returned (.string (nK s)) ∧ Below W.heap.size W w' := by
 have e2 : (⟨#[110, 47]⟩ : ByteArray).size = 2 := rfl;go_enter func155, ntmps155;go_wp2;go_ret;exact ⟨rfl, Below.refl _ _⟩
theorem hexOf_c (s : ByteArray) (W : World) :
 Calls prog 166 #[.string s] W fun e w' => e = .returned (.string (hexV s)) ∧ Below W.heap.size W w' := by
 have K := hid9 (implHex_c s W);generalize hexV s = r at *;generalize hexOk s = b at *;go_enter func166, ntmps166;go_wp2_with fail;refine K.out.mono ?_;rintro e w1 ⟨rfl, hb⟩;go_wp2;go_ret;exact ⟨rfl, hb⟩
theorem procKey2_c (id : Int) (t : ByteArray) (W : World) (hn : I64 id) (ht : t.size ≤ 100) (hT : Tabs W) :
 Calls prog 123 #[.int .i64 id, .string t] W fun e w' => e = .returned (.string (procK id t)) ∧ Below W.heap.size W w' := procKey_c id t W hn.lo hn.hi ht ⟨hT.1, hT.2.1⟩
theorem implKeyNum2_c (h : ByteArray) (n : Int) (t : ByteArray) (W : World) (hn : I64 n) (hh : h.size ≤ 4000) (htl : t.size ≤ 4000) (hT : Tabs W) :
 Calls prog 159 #[.string h, .int .i64 n, .string t] W fun e w' => e = .returned (.string (keyNumS h n t)) ∧ Below W.heap.size W w' := implKeyNum_c h n t W hn.lo hn.hi (by omega) (by omega) hT.1
theorem specKeyNum2_c (h : ByteArray) (n : Int) (t : ByteArray) (W : World) (hn : I64 n) (hh : h.size ≤ 4000) (htl : t.size ≤ 4000) :
 Calls prog 176 #[.string h, .int .i64 n, .string t] W fun e w' => e = .returned (.string (keyNumS h n t)) ∧ Below W.heap.size W w' := specKeyNum_c h n t W hn.lo hn.hi (by omega) (by omega)
end
section
open Go
section
variable {P : Program} {ops : Array Oper} {Q : Exit → Act → World → Prop} {md : Region.Mode} {S : World → Prop} {Y : List Nat}
def anyOf (Y : List Nat) (listed : Array Bool) : Bool := Y.any (fun y => listed.getD y false)
def wpAnyY (P : Program) (md : Region.Mode) (ops : Array Oper) (Q : Exit → Act → World → Prop) (S : World → Prop) (Y : List Nat) : Nat → Array Bool → Act → World → Prop
 | 0, listed, a, w => Region.ready md ops listed = [] ∧ Q .normal a w
 | fuel + 1, listed, a, w =>
  (Region.ready md ops listed = [] → Q .normal a w) ∧
  ∀ i ∈ Region.ready md ops listed, wpOp P ops Q i (fun a' w' => (anyOf Y (listed.setIfInBounds i true) = true ∨ S w') ∧ wpAnyY P md ops Q S Y fuel (listed.setIfInBounds i true) a' w') a w
theorem wpAny_of_Y : ∀ (fuel : Nat) (listed : Array Bool) (a : Act) (w : World), wpAnyY P md ops Q S Y fuel listed a w → wpAny P md ops Q fuel listed a w
 | 0, _, _, _, h => h
 | fuel + 1, _, _, _, h => ⟨h.1, fun i hi => wpOp_mono (fun a' w' h' => wpAny_of_Y fuel _ a' w' h'.2) (h.2 i hi)⟩
def Closed (md : Region.Mode) (ops : Array Oper) (listed : Array Bool) : Prop :=
 ∀ k o, ops[k]? = some o → listed.getD k false = true → ∀ e ∈ o.after, Region.binds md e = true → listed.getD e.on false = true
def closedB (md : Region.Mode) (ops : Array Oper) (listed : Array Bool) : Bool :=
 (List.range ops.size).all (fun k => match ops[k]? with
  | none => true
  | some o => !(listed.getD k false) || o.after.all (fun e => !(Region.binds md e) || listed.getD e.on false))
theorem closed_of_B {listed : Array Bool} (h : closedB md ops listed = true) : Closed md ops listed := by
 intro k o hk hl e he hb;have hlt : k < ops.size := (Array.getElem?_eq_some_iff.1 hk).1;have h1 := List.all_eq_true.1 h k (List.mem_range.2 hlt);simp only [hk, hl, Bool.not_true, Bool.false_or] at h1;have h2 := Array.all_eq_true_iff_forall_mem.1 h1 e he;simpa [hb] using h2
theorem Closed.set {listed : Array Bool} {j : Nat} (h : Closed md ops listed) (hj : j ∈ Region.ready md ops listed) : Closed md ops (listed.setIfInBounds j true) := by
 intro k o hk hl e he hb;by_cases hkj : k = j
 ·subst hkj;obtain ⟨_, o', ho', hall⟩ := mem_ready.1 hj;rw [hk] at ho';obtain rfl := Option.some.inj ho';exact getD_set_true (hall e he hb)
 ·rw [getD_set_ne false (Ne.symm hkj)] at hl;exact getD_set_true (h k o hk hl e he hb)
def waits (md : Region.Mode) (ops : Array Oper) : Nat → Nat → Nat → Bool
 | 0, _, _ => false
 | n + 1, y, i => match ops[y]? with
  | none => false
  | some o => o.after.any (fun e => Region.binds md e && (e.on == i || waits md ops n e.on i))
theorem any_mem {α : Type} {p : α → Bool} {xs : Array α} (h : xs.any p = true) : ∃ x, x ∈ xs ∧ p x = true := by
 obtain ⟨i, hi, hp⟩ := Array.any_eq_true.1 h;exact ⟨xs[i], Array.getElem_mem hi, hp⟩
theorem waits_listed {listed : Array Bool} {i : Nat} (h : Closed md ops listed) : ∀ (n y : Nat), waits md ops n y i = true → listed.getD y false = true → listed.getD i false = true
 | 0, _, hw, _ => by simp [waits] at hw
 | n + 1, y, hw, hl => by
  unfold waits at hw;cases ho : ops[y]? with
  | none => simp [ho] at hw
  | some o =>
   simp only [ho] at hw;obtain ⟨e, he, hq⟩ := any_mem hw;simp only [Bool.and_eq_true, Bool.or_eq_true, beq_iff_eq] at hq;have hon := h y o ho hl e he hq.1;rcases hq.2 with rfl | h2
   ·exact hon
   ·exact waits_listed h n _ h2 hon
theorem waits_ready {listed : Array Bool} {i n y : Nat} (h : Closed md ops listed) (hw : waits md ops n y i = true) (hr : y ∈ Region.ready md ops listed) : listed.getD i false = true := by
 obtain ⟨_, o, ho, hall⟩ := mem_ready.1 hr;cases n with
 | zero => simp [waits] at hw
 | succ n =>
  unfold waits at hw;simp only [ho] at hw;obtain ⟨e, he, hq⟩ := any_mem hw;simp only [Bool.and_eq_true, Bool.or_eq_true, beq_iff_eq] at hq;have hon := hall e he hq.1;rcases hq.2 with rfl | h2
  ·exact hon
  ·exact waits_listed h n _ h2 hon
theorem anyOf_set {listed : Array Bool} {i : Nat} (h : i ∉ Y) : anyOf Y (listed.setIfInBounds i true) = anyOf Y listed := by
 unfold anyOf;rw [Bool.eq_iff_iff, List.any_eq_true, List.any_eq_true];constructor
 ·rintro ⟨y, hy, hl⟩;exact ⟨y, hy, by rw [getD_set_ne false (fun e : i = y => h (by rw [e]; exact hy))] at hl; exact hl⟩
 ·rintro ⟨y, hy, hl⟩;exact ⟨y, hy, by rw [getD_set_ne false (fun e : i = y => h (by rw [e]; exact hy))]; exact hl⟩
theorem not_listed {listed : Array Bool} {i : Nat} (hr : i ∈ Region.ready md ops listed) : listed.getD i false = false := by
 have h0 := (mem_ready.1 hr).1;rcases Nat.lt_or_ge i listed.size with h' | h'
 ·simp [h'] at h0 ⊢; exact h0
 ·simp [Array.getElem?_eq_none h']
theorem wpAnyY_first {i n : Nat} {oi : Oper} {v : Value} (hi : ops[i]? = some oi) (hsel : ∀ (j : Nat) (o : Oper) cs b, ops[j]? = some o → o.op ≠ .select cs b)
 (hQ : ∀ c a w, Q (.panic c) (a.put oi.dst v) w → Q (.panic c) a w) (hiY : i ∉ Y) (hwt : ∀ y ∈ Y, waits md ops n y i = true) :
 ∀ (fuel : Nat) (listed : Array Bool) (a : Act) (w : World),
  (∀ j oj, ops[j]? = some oj → j ≠ i → listed.getD j true = false → (∀ e ∈ oj.after, Region.binds md e = true → e.on ≠ i) → oi.apart ops oj = true) →
  i ∈ Region.ready md ops listed → YieldsIf P ops S oi v a → S w → Closed md ops listed → anyOf Y listed = false →
  wpAnyY P md ops Q S Y fuel (listed.setIfInBounds i true) (a.put oi.dst v) w → wpAnyY P md ops Q S Y (fuel + 1) listed a w := by
 intro fuel
 induction fuel with
 | zero =>
  intro listed a w _ hr hy hS _ _ H;refine ⟨fun h => (by rw [h] at hr; cases hr), fun j hj => ?_⟩;by_cases hji : j = i
  ·subst hji; exact hy.wpOp hi hS ⟨.inr hS, H⟩
  ·have := ready_mono hj hji;rw [H.1] at this;cases this
 | succ fuel ih =>
  intro listed a w hfree hr hy hS hcl hnY H;refine ⟨fun h => (by rw [h] at hr; cases hr), fun j hj => ?_⟩;by_cases hji : j = i
  ·subst hji; exact hy.wpOp hi hS ⟨.inr hS, H⟩
  ·have h1 := H.2 j (ready_mono hj hji);obtain ⟨hjun, oj, hoj, hall⟩ := mem_ready.1 hj;have hin := not_listed hr;have hnot : ∀ e ∈ oj.after, Region.binds md e = true → e.on ≠ i := fun e he hb heq => by
    have h1 := hall e he hb;rw [heq, hin] at h1;cases h1
   have hjY : j ∉ Y := fun hjY => by
    have := waits_ready hcl (hwt j hjY) hj;rw [hin] at this;cases this
   have hno2 : anyOf Y ((listed.setIfInBounds i true).setIfInBounds j true) = false := by
    rw [anyOf_set hjY, anyOf_set hiY]; exact hnY
   have h2 := wpOp_putIf hoj (hfree j oj hoj hji hjun hnot) (fun cs b => hsel i oi cs b hi) (fun cs b => hsel j oj cs b hoj) hQ hy h1;have hfree' : ∀ k ok, ops[k]? = some ok → k ≠ i → (listed.setIfInBounds j true).getD k true = false →
    (∀ e ∈ ok.after, Region.binds md e = true → e.on ≠ i) → oi.apart ops ok = true := fun k ok hk hki hun hno => by
    refine hfree k ok hk hki ?_ hno;by_cases hjk : j = k
    ·subst hjk; exact hjun
    ·rw [getD_set_ne true hjk] at hun; exact hun
   refine wpOp_mono (fun a' w' h3 => ?_) h2;have hS' : S w' := by
    rcases h3.2.1 with h | h
    ·rw [hno2] at h; cases h
    ·exact h
   refine ⟨.inr hS', ih (listed.setIfInBounds j true) a' w' hfree' (ready_mono hr (Ne.symm hji)) h3.1 hS' (hcl.set hj) (by rw [anyOf_set hjY]; exact hnY) ?_⟩;rw [Array.setIfInBounds_comm _ _ hji];exact h3.2.2
theorem wpAnyY_first0 {i : Nat} {oi : Oper} {v : Value} (hi : ops[i]? = some oi) (hsel : ∀ (j : Nat) (o : Oper) cs b, ops[j]? = some o → o.op ≠ .select cs b)
 (hQ : ∀ c a w, Q (.panic c) (a.put oi.dst v) w → Q (.panic c) a w) (hiY : i ∉ Y) :
 ∀ (fuel : Nat) (listed : Array Bool) (a : Act) (w : World),
  (∀ j oj, ops[j]? = some oj → j ≠ i → listed.getD j true = false → (∀ e ∈ oj.after, Region.binds md e = true → e.on ≠ i) → oi.apart ops oj = true) →
  i ∈ Region.ready md ops listed → YieldsIf P ops (fun _ => True) oi v a → (anyOf Y listed = true ∨ S w) →
  wpAnyY P md ops Q S Y fuel (listed.setIfInBounds i true) (a.put oi.dst v) w → wpAnyY P md ops Q S Y (fuel + 1) listed a w := by
 intro fuel
 induction fuel with
 | zero =>
  intro listed a w _ hr hy hS H;refine ⟨fun h => (by rw [h] at hr; cases hr), fun j hj => ?_⟩;by_cases hji : j = i
  ·subst hji; exact hy.wpOp hi trivial ⟨by rw [anyOf_set hiY]; exact hS, H⟩
  ·have := ready_mono hj hji;rw [H.1] at this;cases this
 | succ fuel ih =>
  intro listed a w hfree hr hy hS H;refine ⟨fun h => (by rw [h] at hr; cases hr), fun j hj => ?_⟩;by_cases hji : j = i
  ·subst hji; exact hy.wpOp hi trivial ⟨by rw [anyOf_set hiY]; exact hS, H⟩
  ·have h1 := H.2 j (ready_mono hj hji);obtain ⟨hjun, oj, hoj, hall⟩ := mem_ready.1 hj;have hin := not_listed hr;have hnot : ∀ e ∈ oj.after, Region.binds md e = true → e.on ≠ i := fun e he hb heq => by
    have h1 := hall e he hb;rw [heq, hin] at h1;cases h1
   have h2 := wpOp_putIf (S := fun _ => True) hoj (hfree j oj hoj hji hjun hnot) (fun cs b => hsel i oi cs b hi) (fun cs b => hsel j oj cs b hoj) hQ hy h1;have hfree' : ∀ k ok, ops[k]? = some ok → k ≠ i → (listed.setIfInBounds j true).getD k true = false →
    (∀ e ∈ ok.after, Region.binds md e = true → e.on ≠ i) → oi.apart ops ok = true := fun k ok hk hki hun hno => by
    refine hfree k ok hk hki ?_ hno;by_cases hjk : j = k
    ·subst hjk; exact hjun
    ·rw [getD_set_ne true hjk] at hun; exact hun
   refine wpOp_mono (fun a' w' h3 => ?_) h2;have hS' : anyOf Y (listed.setIfInBounds j true) = true ∨ S w' := by
    have h4 := h3.2.1;rw [Array.setIfInBounds_comm _ _ (Ne.symm hji), anyOf_set hiY] at h4;exact h4
   refine ⟨hS', ih (listed.setIfInBounds j true) a' w' hfree' (ready_mono hr (Ne.symm hji)) h3.1 hS' ?_⟩;rw [Array.setIfInBounds_comm _ _ hji];exact h3.2.2
theorem not_of_contains {Y : List Nat} {i : Nat} (h : Y.contains i = false) : i ∉ Y := fun hm => by
 have : Y.contains i = true := by simpa using hm
 rw [h] at this; cases this
theorem wpAnyY_load {i : Nat} {oi : Oper} {v : Value} {fuel : Nat} {listed : Array Bool} {a : Act} {w : World} (n : Nat) (hi : ops[i]? = some oi)
 (hs : Region.noSelect ops = true) (hf : Region.free md ops listed i = true) (hr : (Region.ready md ops listed).contains i = true)
 (hst : (!(Y.contains i) && Y.all (fun y => waits md ops n y i) && closedB md ops listed && !(anyOf Y listed)) = true)
 (hQ : ∀ c a w, Q (.panic c) (a.put oi.dst v) w → Q (.panic c) a w) (hy : YieldsIf P ops S oi v a) (hS : S w)
 (h : S w → wpAnyY P md ops Q S Y fuel (listed.setIfInBounds i true) (a.put oi.dst v) w) : wpAnyY P md ops Q S Y (fuel + 1) listed a w := by
 simp only [Bool.and_eq_true, Bool.not_eq_true'] at hst;obtain ⟨⟨⟨h1, h2⟩, h3⟩, h4⟩ := hst;exact wpAnyY_first (n := n) hi (Region.noSelect_spec hs) hQ (not_of_contains h1) (fun y hy => List.all_eq_true.1 h2 y hy) fuel listed a w (Region.free_spec hi hf) (by simpa using hr) hy hS (closed_of_B h3) h4 (h hS)
theorem wpAnyY_pure {i : Nat} {oi : Oper} {v : Value} {fuel : Nat} {listed : Array Bool} {a : Act} {w : World} (hi : ops[i]? = some oi)
 (hs : Region.noSelect ops = true) (hf : Region.free md ops listed i = true) (hr : (Region.ready md ops listed).contains i = true) (hst : Y.contains i = false)
 (hQ : ∀ c a w, Q (.panic c) (a.put oi.dst v) w → Q (.panic c) a w) (hy : YieldsIf P ops (fun _ => True) oi v a) (hS : anyOf Y listed = true ∨ S w)
 (h : wpAnyY P md ops Q S Y fuel (listed.setIfInBounds i true) (a.put oi.dst v) w) : wpAnyY P md ops Q S Y (fuel + 1) listed a w :=
 wpAnyY_first0 hi (Region.noSelect_spec hs) hQ (not_of_contains hst) fuel listed a w (Region.free_spec hi hf) (by simpa using hr) hy hS h
theorem wpAnyY_one {i : Nat} {o : Oper} {fuel : Nat} {listed : Array Bool} {a : Act} {w : World} (hr : Region.ready md ops listed = [i]) (ho : ops[i]? = some o)
 (h : ∀ K' : Act → World → Prop, Shut (∀ a w, (anyOf Y (listed.setIfInBounds i true) = true ∨ S w) → wpAnyY P md ops Q S Y fuel (listed.setIfInBounds i true) a w → K' a w) → if Region.wanted o (yielded ops a.tmps) = true then Oper.wp P o a w K' Q else K' (a.put o.dst undef) w) :
 wpAnyY P md ops Q S Y (fuel + 1) listed a w :=
 ⟨fun h0 => (by rw [hr] at h0; cases h0), fun j hj => by
  rw [hr] at hj;obtain rfl := List.mem_singleton.1 hj;exact wpOp_step ho (fun K' hK => h K' (fun a w hS hW => hK a w ⟨hS, hW⟩))⟩
theorem wpAnyY_done {listed : Array Bool} {a : Act} {w : World} (hr : Region.ready md ops listed = []) (h : Q .normal a w) :
 ∀ fuel, wpAnyY P md ops Q S Y fuel listed a w
 | 0 => ⟨hr, h⟩
 | _ + 1 => ⟨fun _ => h, by rw [hr]; simp⟩
theorem wp_region_Y {id : Nat} {a : Act} {w : World} (S : World → Prop) (Y : List Nat) (hm : P.follows .mixedOrders = true) (hS : S w.drew)
 (h : S w.drew → wpAnyY P .any ops Q S Y ops.size (Array.replicate ops.size false) a w.drew) : (Code.region id ops true).wp P Q a w :=
 wp_region_any hm (wpAny_of_Y _ _ _ _ (h hS))
end
end
section
open Go.ChangeShapes Go.WideShapes Go.ChangeAt Go.RowKit
attribute [local go_sem ↓] Go.wp_at_zero Go.wp_at_succ
def SRet3 (v1 v2 v3 : Value) (m m' : Mch) (r r2 : Value) (w : World) (e : Ending) (w' : World) : Prop :=
 ∃ u1 u2 u3, e = .returned (.tuple #[.agg #[u1, u2, u3], r, r2]) ∧ MOut w.heap.size w' v1 v2 v3 m u1 u2 u3 m' ∧ Below w.heap.size w w'
structure SQ (w : World) (v1 v2 v3 : Value) (m : Mch) (u1 u2 u3 : Value) (k : Mch) (W : World) : Prop where
 h : SH w w.heap.size (w.heap.size + 2) v1 v2 v3 m u1 u2 u3 k W
 p : Box W (w.heap.size + 1) [.slice none 0 0, .slice none 0 0, .slice none 0 0]
 r0 : MRd w v1 v2 v3 m
section
variable {w W W' : World} {v1 v2 v3 u1 u2 u3 x1 x2 x3 : Value} {m k k2 : Mch} {B : Nat}
theorem SQ.below (q : SQ w v1 v2 v3 m u1 u2 u3 k W) (hb : Below W.heap.size W W') : SQ w v1 v2 v3 m u1 u2 u3 k W' := ⟨q.h.below hb, q.p.below hb, q.r0⟩
theorem SQ.drew (q : SQ w v1 v2 v3 m u1 u2 u3 k W) : SQ w v1 v2 v3 m u1 u2 u3 k W.drew := ⟨q.h.drew, q.p.drew, q.r0⟩
theorem SQ.rd (q : SQ w v1 v2 v3 m u1 u2 u3 k W) : MRd W u1 u2 u3 k := q.h.mo.rd q.r0 q.h.bel
theorem SQ.sz (q : SQ w v1 v2 v3 m u1 u2 u3 k W) : w.heap.size + 2 ≤ W.heap.size := q.p.1
theorem SQ.put (q : SQ w v1 v2 v3 m u1 u2 u3 k W) (h2 : MOut (w.heap.size + 2) W u1 u2 u3 k x1 x2 x3 k2) : SQ w v1 v2 v3 m x1 x2 x3 k2 (((W.setCell ⟨w.heap.size, 0, none⟩ x1).setCell ⟨w.heap.size, 1, none⟩ x2).setCell ⟨w.heap.size, 2, none⟩ x3) :=
 ⟨q.h.put3 (Nat.le_refl _) (by omega) (Nat.le_refl _) h2, box_far (box_far (box_far q.p (show w.heap.size + 1 ≠ w.heap.size by omega) 0 x1) (show w.heap.size + 1 ≠ w.heap.size by omega) 1 x2) (show w.heap.size + 1 ≠ w.heap.size by omega) 2 x3, q.r0⟩
theorem SQ.first {a1 a2 a3 : Option Addr} {c1 c2 c3 n1 n2 n3 : Nat} (h : MRd w (.slice a1 n1 c1) (.slice a2 n2 c2) (.slice a3 n3 c3) m) :
 SQ w (.slice a1 n1 c1) (.slice a2 n2 c2) (.slice a3 n3 c3) m (.slice a1 n1 c1) (.slice a2 n2 c2) (.slice a3 n3 c3) m ((w.alloc (.cells #[.slice a1 n1 c1, .slice a2 n2 c2, .slice a3 n3 c3] 87)).alloc (.cells #[.slice none 0 0, .slice none 0 0, .slice none 0 0] 87)) := by
 refine ⟨⟨(Box.new w [.slice a1 n1 c1, .slice a2 n2 c2, .slice a3 n3 c3] 87).alloc _, bel9, MOut.refl⟩, ?_, h⟩;have h := Box.new (w.alloc (.cells #[.slice a1 n1 c1, .slice a2 n2 c2, .slice a3 n3 c3] 87)) [.slice none 0 0, .slice none 0 0, .slice none 0 0] 87;rw [show (w.alloc (.cells #[.slice a1 n1 c1, .slice a2 n2 c2, .slice a3 n3 c3] 87)).heap.size = w.heap.size + 1 by simp] at h;exact h
theorem MRd.open3 (h : MRd w v1 v2 v3 m) : ∃ a1 c1 a2 c2 a3 c3, v1 = .slice a1 m.st.length c1 ∧ v2 = .slice a2 m.rs.length c2 ∧ v3 = .slice a3 m.ws.length c3 := by
 obtain ⟨a1, c1, h1, _⟩ := h.r1;obtain ⟨a2, c2, h2, _⟩ := h.r2;obtain ⟨a3, c3, h3, _⟩ := h.r3;exact ⟨a1, c1, a2, c2, a3, c3, h1, h2, h3⟩
theorem MOut.openS (h : MRd w v1 v2 v3 m) (hmo : MOut B W v1 v2 v3 m u1 u2 u3 k) (hb : Below w.heap.size w W) : ∃ a1 c1 a2 c2 a3 c3, u1 = .slice a1 k.st.length c1 ∧ u2 = .slice a2 k.rs.length c2 ∧ u3 = .slice a3 k.ws.length c3 := (hmo.rd h hb).open3
end
section
variable (v1 v2 v3 : Value) (m m' : Mch)
theorem tNum_c (x : Int) (key : ByteArray) (w : World) (h : MRd w v1 v2 v3 m) (ho : MOk 1900000000000 m) (E : (numP key).run m = (m', x)) :
 Calls prog 147 #[.agg #[v1, v2, v3], .string key] w (SRet v1 v2 v3 m m' (.int .i64 x) w) := by
 obtain ⟨e1, e2⟩ := Prod.mk.inj (show (lookM m key, numOfV (getKeyS m.st key)) = (m', x) from E);subst e1 e2;exact sNumAt_c v1 v2 v3 m key w h ho
theorem tLook_c (x : ByteArray) (key : ByteArray) (w : World) (h : MRd w v1 v2 v3 m) (ho : MOk 1900000000000 m) (E : (lookP key).run m = (m', x)) :
 Calls prog 187 #[.agg #[v1, v2, v3], .string key] w (SRet v1 v2 v3 m m' (.string x) w) := by
 obtain ⟨e1, e2⟩ := Prod.mk.inj (show (lookM m key, getKeyS m.st key) = (m', x) from E);subst e1 e2;exact sLook_c v1 v2 v3 m key w h (ho.mono (by omega))
theorem tSet_c (x : Unit) (key : ByteArray) (n : Int) (w : World) (h : MRd w v1 v2 v3 m) (ho : MOk 1900000000000 m) (hk : key.size ≤ maxLen) (E : (setP key n).run m = (m', x)) :
 Calls prog 149 #[.agg #[v1, v2, v3], .string key, .int .i64 n] w (SRet1 v1 v2 v3 m m' w) := by
 obtain ⟨e1, e2⟩ := Prod.mk.inj (show (setM m key n, ()) = (m', x) from E);subst e1;exact sSetNum_c v1 v2 v3 m key n w h ho hk
theorem tLay_c (x : Unit) (key val : ByteArray) (w : World) (h : MRd w v1 v2 v3 m) (ho : MOk 1900000000000 m) (hk : key.size ≤ maxLen) (hv : val.size ≤ maxLen) (E : (layP key val).run m = (m', x)) :
 Calls prog 177 #[.agg #[v1, v2, v3], .string key, .string val] w (SRet1 v1 v2 v3 m m' w) := by
 obtain ⟨e1, e2⟩ := Prod.mk.inj (show (layM m key val, ()) = (m', x) from E);subst e1;exact sLay_c v1 v2 v3 m key val w h (ho.mono (by omega)) hk hv
theorem tBump_c (x : Int) (key : ByteArray) (w : World) (h : MRd w v1 v2 v3 m) (ho : MOk 1900000000000 m) (hk : key.size ≤ maxLen) (E : (bumpP key).run m = (m', x)) :
 Calls prog 148 #[.agg #[v1, v2, v3], .string key] w (SRet v1 v2 v3 m m' (.int .i64 x) w) := by
 rw [bump_run] at E;obtain ⟨e1, e2⟩ := Prod.mk.inj E;subst e1 e2;exact sBumped_c v1 v2 v3 m key w h ho hk
end
end
section
open Go
theorem sq1 {α : Type _} {xs : List α} {i : Nat} (h : i < xs.toArray.size) : xs.toArray[i] = xs[i]'(by simpa using h) := List.getElem_toArray h
theorem sq2 {α : Type _} {a : α} {ys : List α} {h : 0 < (a :: ys).length} : (a :: ys)[0] = a := List.getElem_cons_zero _ _ _
theorem sq3 {α : Type _} {i : Nat} {a : α} {ys : List α} {h : i + 1 < (a :: ys).length} : (a :: ys)[i + 1] = ys[i]'(Nat.lt_of_succ_lt_succ h) := List.getElem_cons_succ _ _ _ _
theorem sq4 {α : Type _} (l : List α) (i : Nat) (a : α) : l.toArray.setIfInBounds i a = (l.set i a).toArray := List.setIfInBounds_toArray ..
theorem sq5 {α : Type _} {x : α} {xs : List α} {a : α} : (x :: xs).set 0 a = a :: xs := List.set_cons_zero
theorem sq6 {α : Type _} {x : α} {xs : List α} {i : Nat} {a : α} : (x :: xs).set (i + 1) a = x :: xs.set i a := List.set_cons_succ
section
variable {P : Program} {ops : Array Oper} {Q : Exit → Act → World → Prop} {md : Region.Mode} {S : World → Prop} {Y : List Nat}
theorem wpL (i : Nat) {oi : Oper} {v : Value} {fuel : Nat} {listed : Array Bool} {a : Act} {w : World} (hS : S w) (hy : ∀ w, S w → (execOp a.eval oi).run P w = .ok (.value v) w)
 (h : S w → wpAnyY P md ops Q S Y fuel (listed.setIfInBounds i true) (a.put oi.dst v) w) (hi : ops[i]? = some oi := by rfl)
 (hs : Region.noSelect ops = true := by kernel_rfl) (hf : Region.free md ops listed i = true := by kernel_rfl) (hr : (Region.ready md ops listed).contains i = true := by kernel_rfl)
 (hst : (!(Y.contains i) && Y.all (fun y => waits md ops 12 y i) && closedB md ops listed && !(anyOf Y listed)) = true := by kernel_rfl)
 (hQ : ∀ c a w, Q (.panic c) (a.put oi.dst v) w → Q (.panic c) a w := by exact fun _ _ _ h => h) (hg : Region.wanted oi (yielded ops a.tmps) = true := by rfl) : wpAnyY P md ops Q S Y (fuel + 1) listed a w :=
 wpAnyY_load 12 hi hs hf hr hst hQ (Or.inl ⟨hg, hy⟩) hS h
theorem wpU (i : Nat) {oi : Oper} {v : Value} {fuel : Nat} {listed : Array Bool} {a : Act} {w : World} (hS : anyOf Y listed = true ∨ S w) (hy : ∀ w, (fun _ => True) w → (execOp a.eval oi).run P w = .ok (.value v) w)
 (h : wpAnyY P md ops Q S Y fuel (listed.setIfInBounds i true) (a.put oi.dst v) w) (hi : ops[i]? = some oi := by rfl)
 (hs : Region.noSelect ops = true := by kernel_rfl) (hf : Region.free md ops listed i = true := by kernel_rfl) (hr : (Region.ready md ops listed).contains i = true := by kernel_rfl)
 (hst : Y.contains i = false := by kernel_rfl)
 (hQ : ∀ c a w, Q (.panic c) (a.put oi.dst v) w → Q (.panic c) a w := by exact fun _ _ _ h => h) (hg : Region.wanted oi (yielded ops a.tmps) = true := by rfl) : wpAnyY P md ops Q S Y (fuel + 1) listed a w :=
 wpAnyY_pure hi hs hf hr hst hQ (Or.inl ⟨hg, hy⟩) hS h
theorem wpO (i : Nat) {o : Oper} {fuel : Nat} {listed : Array Bool} {a : Act} {w : World}
 (h : ∀ K' : Act → World → Prop, Shut (∀ a w, (anyOf Y (listed.setIfInBounds i true) = true ∨ S w) → wpAnyY P md ops Q S Y fuel (listed.setIfInBounds i true) a w → K' a w) → if Region.wanted o (yielded ops a.tmps) = true then Oper.wp P o a w K' Q else K' (a.put o.dst undef) w)
 (hr : Region.ready md ops listed = [i] := by kernel_rfl) (ho : ops[i]? = some o := by rfl) : wpAnyY P md ops Q S Y (fuel + 1) listed a w := wpAnyY_one hr ho h
end
end
section
open Go.ChangeShapes Go.WideShapes Go.ChangeAt Go.RowKit
theorem sqz : (∀ {α : Type} {xs : List α} {i : Nat} (h : i < xs.toArray.size), xs.toArray[i] = xs[i]'(by simpa using h)) ∧ (∀ {α : Type} {a : α} {ys : List α} {h : 0 < (a :: ys).length}, (a :: ys)[0] = a) ∧
 (∀ {α : Type} {i : Nat} {a : α} {ys : List α} {h : i + 1 < (a :: ys).length}, (a :: ys)[i + 1] = ys[i]'(Nat.lt_of_succ_lt_succ h)) ∧ (∀ {α : Type} (l : List α) (i : Nat) (a : α), l.toArray.setIfInBounds i a = (l.set i a).toArray) ∧
 (∀ {α : Type} {x : α} {xs : List α} {a : α}, (x :: xs).set 0 a = a :: xs) ∧ (∀ {α : Type} {x : α} {xs : List α} {i : Nat} {a : α}, (x :: xs).set (i + 1) a = x :: xs.set i a) :=
 ⟨sq1, sq2, sq3, sq4, sq5, sq6⟩
theorem bz : (false = true ↔ False) ∧ (∀ b : Bool, (true && b) = b) ∧ (∀ b : Bool, (b && true) = b) ∧ (∀ b : Bool, (false && b) = false) ∧ (∀ b : Bool, (b && false) = false) ∧ (∀ p : Prop, (p ∨ False) ↔ p) ∧ (∀ p : Prop, (False ∨ p) ↔ p) ∧ (∀ p : Prop, (True ∨ p) ↔ True) ∧ (∀ p : Prop, (p ∨ True) ↔ True) ∧ (¬ True ↔ False) ∧ (¬ False ↔ True) :=
 ⟨by simp, by simp, by simp, by simp, by simp, by simp, by simp, by simp, by simp, by simp, by simp⟩
theorem Pg.Cost.hop {α : Type} (x : Pg α) {n c : Nat} {m : Mch} (h : Pg.Cost x n c) (ho : Hid (MOk n m)) : ∃ aa bb, Hid (x.run m = (aa, bb)) ∧ Hid (MOk (n + c) aa) := ⟨_, _, rfl, h.okE ho.out rfl⟩
section
variable {P : Program} {ops : Array Oper} {Q : Exit → Act → World → Prop} {md : Region.Mode} {S : World → Prop} {Y : List Nat}
theorem gL (i : Nat) {oi : Oper} {fuel : Nat} {listed : Array Bool} {a : Act} {w : World} (hS : S w)
 (h : ∃ v, (∀ w, S w → (execOp a.eval oi).run P w = .ok (.value v) w) ∧ wpAnyY P md ops Q S Y fuel (listed.setIfInBounds i true) (a.put oi.dst v) w) (hi : ops[i]? = some oi := by rfl)
 (hs : Region.noSelect ops = true := by kernel_rfl) (hf : Region.free md ops listed i = true := by kernel_rfl) (hr : (Region.ready md ops listed).contains i = true := by kernel_rfl)
 (hst : (!(Y.contains i) && Y.all (fun y => waits md ops 12 y i) && closedB md ops listed && !(anyOf Y listed)) = true := by kernel_rfl)
 (hQ : ∀ c a v w, Q (.panic c) (a.put oi.dst v) w → Q (.panic c) a w := by exact fun _ _ _ _ h => h) (hg : Region.wanted oi (yielded ops a.tmps) = true := by rfl) : wpAnyY P md ops Q S Y (fuel + 1) listed a w := by
 obtain ⟨v, hy, h⟩ := h;exact wpAnyY_load 12 hi hs hf hr hst (fun c a w => hQ c a v w) (Or.inl ⟨hg, hy⟩) hS (fun _ => h)
theorem gU (i : Nat) {oi : Oper} {fuel : Nat} {listed : Array Bool} {a : Act} {w : World} (hS : anyOf Y listed = true ∨ S w)
 (h : ∃ v, (∀ w, (execOp a.eval oi).run P w = .ok (.value v) w) ∧ wpAnyY P md ops Q S Y fuel (listed.setIfInBounds i true) (a.put oi.dst v) w) (hi : ops[i]? = some oi := by rfl)
 (hs : Region.noSelect ops = true := by kernel_rfl) (hf : Region.free md ops listed i = true := by kernel_rfl) (hr : (Region.ready md ops listed).contains i = true := by kernel_rfl)
 (hst : Y.contains i = false := by kernel_rfl)
 (hQ : ∀ c a v w, Q (.panic c) (a.put oi.dst v) w → Q (.panic c) a w := by exact fun _ _ _ _ h => h) (hg : Region.wanted oi (yielded ops a.tmps) = true := by rfl) : wpAnyY P md ops Q S Y (fuel + 1) listed a w := by
 obtain ⟨v, hy, h⟩ := h;exact wpAnyY_pure hi hs hf hr hst (fun c a w => hQ c a v w) (Or.inl ⟨hg, fun w _ => hy w⟩) hS h
theorem gU1 (i : Nat) {oi : Oper} {fuel : Nat} {listed : Array Bool} {a : Act} {w : World} (hS : S w)
 (h : ∃ v, (∀ w, (execOp a.eval oi).run P w = .ok (.value v) w) ∧ wpAnyY P md ops Q S Y fuel (listed.setIfInBounds i true) (a.put oi.dst v) w) (hi : ops[i]? = some oi := by rfl)
 (hs : Region.noSelect ops = true := by kernel_rfl) (hf : Region.free md ops listed i = true := by kernel_rfl) (hr : (Region.ready md ops listed).contains i = true := by kernel_rfl)
 (hst : Y.contains i = false := by kernel_rfl)
 (hQ : ∀ c a v w, Q (.panic c) (a.put oi.dst v) w → Q (.panic c) a w := by exact fun _ _ _ _ h => h) (hg : Region.wanted oi (yielded ops a.tmps) = true := by rfl) : wpAnyY P md ops Q S Y (fuel + 1) listed a w :=
 gU i (.inr hS) h hi hs hf hr hst hQ hg
theorem gU0 (i : Nat) {oi : Oper} {fuel : Nat} {listed : Array Bool} {a : Act} {w : World}
 (h : ∃ v, (∀ w, (execOp a.eval oi).run P w = .ok (.value v) w) ∧ wpAnyY P md ops Q S Y fuel (listed.setIfInBounds i true) (a.put oi.dst v) w) (hS : anyOf Y listed = true := by kernel_rfl) (hi : ops[i]? = some oi := by rfl)
 (hs : Region.noSelect ops = true := by kernel_rfl) (hf : Region.free md ops listed i = true := by kernel_rfl) (hr : (Region.ready md ops listed).contains i = true := by kernel_rfl)
 (hst : Y.contains i = false := by kernel_rfl)
 (hQ : ∀ c a v w, Q (.panic c) (a.put oi.dst v) w → Q (.panic c) a w := by exact fun _ _ _ _ h => h) (hg : Region.wanted oi (yielded ops a.tmps) = true := by rfl) : wpAnyY P md ops Q S Y (fuel + 1) listed a w :=
 gU i (.inl hS) h hi hs hf hr hst hQ hg
end
section
variable {w W W' : World} {v1 v2 v3 u1 u2 u3 x1 x2 x3 : Value} {m k k2 : Mch}
theorem SQ.fx (q : SQ w v1 v2 v3 m u1 u2 u3 k W) : W.cell? ⟨w.heap.size, 0, none⟩ = some u1 ∧ W.cell? ⟨w.heap.size, 1, none⟩ = some u2 ∧ W.cell? ⟨w.heap.size, 2, none⟩ = some u3 ∧ W.frozen? ⟨w.heap.size, 0, none⟩ = false ∧ W.frozen? ⟨w.heap.size, 1, none⟩ = false ∧ W.frozen? ⟨w.heap.size, 2, none⟩ = false ∧
 W.cell? ⟨w.heap.size + 1, 0, none⟩ = some (.slice none 0 0) ∧ W.cell? ⟨w.heap.size + 1, 1, none⟩ = some (.slice none 0 0) ∧ W.cell? ⟨w.heap.size + 1, 2, none⟩ = some (.slice none 0 0) ∧ W.frozen? ⟨w.heap.size + 1, 0, none⟩ = false ∧ W.frozen? ⟨w.heap.size + 1, 1, none⟩ = false ∧ W.frozen? ⟨w.heap.size + 1, 2, none⟩ = false :=
 ⟨q.h.x.cell 0 _ rfl, q.h.x.cell 1 _ rfl, q.h.x.cell 2 _ rfl, q.h.x.free 0, q.h.x.free 1, q.h.x.free 2, q.p.cell 0 _ rfl, q.p.cell 1 _ rfl, q.p.cell 2 _ rfl, q.p.free 0, q.p.free 1, q.p.free 2⟩
theorem SQ.region {P : Program} {ops : Array Oper} {Q : Exit → Act → World → Prop} {id : Nat} {a : Act} (q : SQ w v1 v2 v3 m u1 u2 u3 k W) (Y : List Nat)
 (h : SQ w v1 v2 v3 m u1 u2 u3 k W.drew → (∀ W, SQ w v1 v2 v3 m u1 u2 u3 k W → W.cell? ⟨w.heap.size, 0, none⟩ = some u1) → (∀ W, SQ w v1 v2 v3 m u1 u2 u3 k W → W.cell? ⟨w.heap.size, 1, none⟩ = some u2) → (∀ W, SQ w v1 v2 v3 m u1 u2 u3 k W → W.cell? ⟨w.heap.size, 2, none⟩ = some u3) →
  wpAnyY P .any ops Q (SQ w v1 v2 v3 m u1 u2 u3 k) Y ops.size (Array.replicate ops.size false) a W.drew) (hm : P.follows .mixedOrders = true := by kernel_rfl) : (Code.region id ops true).wp P Q a W :=
 wp_region_Y _ Y hm q.drew (fun hS => h hS (fun _ h => h.h.x.cell 0 _ rfl) (fun _ h => h.h.x.cell 1 _ rfl) (fun _ h => h.h.x.cell 2 _ rfl))
end
def GB (p base : Nat) (v1 v2 v3 : Value) (w : World) (u1 u2 u3 : Value) (W : World) : Prop := ∀ m' r e w', MStep p base u1 u2 u3 m' r W e w' → MStep p base v1 v2 v3 m' r w e w'
section
variable {p base : Nat} {v1 v2 v3 u1 u2 u3 x1 x2 x3 : Value} {w W W' : World}
theorem GB.start : GB p base v1 v2 v3 w v1 v2 v3 w := fun _ _ _ _ h => h
theorem GB.next (g : GB p base v1 v2 v3 w u1 u2 u3 W) (hg : Grow3 W W' p u1 u2 u3) (r1 : OwnOr W u1 x1) (r2 : OwnOr W u2 x2) (r3 : OwnOr W u3 x3) : GB p base v1 v2 v3 w x1 x2 x3 W' := fun _ _ _ _ h => g _ _ _ _ (MStep.next hg r1 r2 r3 h)
theorem GB.below (g : GB p base v1 v2 v3 w u1 u2 u3 W) (hb : Below W.heap.size W W') : GB p base v1 v2 v3 w u1 u2 u3 W' := g.next (Grow3.of_below hb) (.inl rfl) (.inl rfl) (.inl rfl)
end
end
section
open Go.ChangeShapes Go.WideShapes Go.ChangeAt Go.RowKit
attribute [local go_sem ↓] Go.wp_at_zero Go.wp_at_succ
theorem tabsN {base : Nat} {w : World} (HT : ∀ W, Below base w W → Tabs W) : ∀ W, Below base w W → NumTab W := fun W h => ⟨(HT W h).1, (HT W h).2.1⟩
section
variable (p base : Nat) (v1 v2 v3 : Value) (m m' : Mch)
theorem pNum_c (x : Int) (key : ByteArray) (w : World) (h : MAt w p base v1 v2 v3 m) (ho : MOk 2000000000000 m) (HT : ∀ W, Below base w W → Tabs W) (E : (numP key).run m = (m', x)) :
 Calls prog 120 #[.pointer (some ⟨p, 0, none⟩), .string key] w (MStep p base v1 v2 v3 m' (.int .i64 x) w) := by
 obtain ⟨e1, e2⟩ := Prod.mk.inj (show (lookM m key, numOfV (getKeyS m.st key)) = (m', x) from E);subst e1 e2;exact num_c p base v1 v2 v3 m key w h ho (tabsN HT)
theorem pSet_c (x : Unit) (key : ByteArray) (n : Int) (w : World) (h : MAt w p base v1 v2 v3 m) (ho : MOk 2000000000000 m) (hk : key.size ≤ maxLen) (HT : ∀ W, Below base w W → Tabs W) (E : (setP key n).run m = (m', x)) :
 Calls prog 122 #[.pointer (some ⟨p, 0, none⟩), .string key, .int .i64 n] w (MStep p base v1 v2 v3 m' (.tuple #[]) w) := by
 obtain ⟨e1, e2⟩ := Prod.mk.inj (show (setM m key n, ()) = (m', x) from E);subst e1;exact setNum_c p base v1 v2 v3 m key n w h ho hk (tabsN HT)
theorem pLay_c (x : Unit) (key val : ByteArray) (w : World) (h : MAt w p base v1 v2 v3 m) (ho : MOk 2000000000000 m) (hk : key.size ≤ maxLen) (hv : val.size ≤ maxLen) (E : (layP key val).run m = (m', x)) :
 Calls prog 157 #[.pointer (some ⟨p, 0, none⟩), .string key, .string val] w (MStep p base v1 v2 v3 m' (.tuple #[]) w) := by
 obtain ⟨e1, e2⟩ := Prod.mk.inj (show (layM m key val, ()) = (m', x) from E);subst e1;exact lay_c p base v1 v2 v3 m key val w h ho hk hv
theorem pLook_c (x : ByteArray) (key : ByteArray) (w : World) (h : MAt w p base v1 v2 v3 m) (ho : MOk 2000000000000 m) (E : (lookP key).run m = (m', x)) :
 Calls prog 169 #[.pointer (some ⟨p, 0, none⟩), .string key] w (MStep p base v1 v2 v3 m' (.string x) w) := by
 obtain ⟨e1, e2⟩ := Prod.mk.inj (show (lookM m key, getKeyS m.st key) = (m', x) from E);subst e1 e2;exact look_c p base v1 v2 v3 m key w h ho
theorem pBump_c (x : Int) (key : ByteArray) (w : World) (h : MAt w p base v1 v2 v3 m) (ho : MOk 1900000000000 m) (hk : key.size ≤ maxLen) (HT : ∀ W, Below base w W → Tabs W) (E : (bumpP key).run m = (m', x)) :
 Calls prog 121 #[.pointer (some ⟨p, 0, none⟩), .string key] w (MStep p base v1 v2 v3 m' (.int .i64 x) w) := by
 rw [bump_run] at E;obtain ⟨e1, e2⟩ := Prod.mk.inj E;subst e1 e2;exact bump_c p base v1 v2 v3 m key w h ho hk (tabsN HT)
theorem pMsg_c (x : ByteArray) (key : ByteArray) (w : World) (h : MAt w p base v1 v2 v3 m) (ho : MOk 2000000000000 m) (HT : ∀ W, Below base w W → Tabs W) (E : (msgP key).run m = (m', x)) :
 Calls prog 167 #[.pointer (some ⟨p, 0, none⟩), .string key] w (MStep p base v1 v2 v3 m' (.string x) w) := by
 obtain ⟨e1, e2⟩ := Prod.mk.inj (show (lookM m key, msgV (getKeyS m.st key)) = (m', x) from E);subst e1 e2;have H := hid9 h;have K := hid9 (look_c p base v1 v2 v3 m key w h ho);have hs := get_sz ho.sz key;have HTT := hid9 HT;clear h ho HT E;generalize getKeyS m.st key = s at *;have KN := hid9 (fun W (h : Tabs W) => messageOf_c s W (by omega) h.2.2);generalize msgV s = n at *;go_enter func167, ntmps167;go_wp2_with fail;refine K.out.mono ?_;rintro e w1 ⟨u1, u2, u3, rfl, hm, hg, q1, q2, q3⟩;have HM := hid9 hm;have HG := hid9 hg;have Q1 := hid9 q1;have Q2 := hid9 q2;have Q3 := hid9 q3;have HW := hid9 (HTT.out w1 (H.out.grow hg));clear hm hg q1 q2 q3 K;go_wp2_with fail;refine (KN.out _ HW.out).mono ?_;rintro e w2 ⟨rfl, hb⟩;have HEND := hid9 (MStep.next HG.out Q1.out Q2.out Q3.out (HM.out.step hb (.string n)));clear hb;go_wp2;go_ret;exact HEND.out
theorem pBlock_c (x : ByteArray) (id place : Int) (w : World) (h : MAt w p base v1 v2 v3 m) (ho : MOk 2000000000000 m) (hn : I64 id) (hp : I64 place) (HT : ∀ W, Below base w W → Tabs W) (E : (blockP id place).run m = (m', x)) :
 Calls prog 205 #[.pointer (some ⟨p, 0, none⟩), .int .i64 id, .int .i64 place] w (MStep p base v1 v2 v3 m' (.string x) w) := by
 obtain ⟨e1, e2⟩ := Prod.mk.inj (show (lookM m (blockK id place), unhexV (getKeyS m.st (blockK id place))) = (m', x) from E);subst e1 e2;have H := hid9 h;have KK := hid9 (blockKey_c id place w hn hp (HT w (Below.refl _ _)));generalize blockK id place = key at *;have K := hid9 (fun W (hb : Below w.heap.size w W) => look_c p base v1 v2 v3 m key W (h.below hb) ho);have hs := get_sz ho.sz key;have HTT := hid9 HT;clear h ho HT E hn hp;generalize getKeyS m.st key = s at *;have KN := hid9 (fun W (h : Tabs W) => implUnhex_c s W (by omega) h.2.2);generalize unhexV s = n at *;generalize unhexOk s = b at *;go_enter func205, ntmps205;go_wp2_with fail;refine KK.out.mono ?_;rintro e w0 ⟨rfl, hb0⟩;have HB0 := hid9 hb0;clear hb0;go_wp2_with fail;refine (K.out _ HB0.out).mono ?_;rintro e w1 ⟨u1, u2, u3, rfl, hm, hg, q1, q2, q3⟩;have HM := hid9 hm;have HG := hid9 ((Grow3.of_below HB0.out).trans (.inl rfl) (.inl rfl) (.inl rfl) hg);have Q1 := hid9 ((OwnOr.trans (.inl rfl : OwnOr w v1 v1) q1 HB0.out.size));have Q2 := hid9 ((OwnOr.trans (.inl rfl : OwnOr w v2 v2) q2 HB0.out.size));have Q3 := hid9 ((OwnOr.trans (.inl rfl : OwnOr w v3 v3) q3 HB0.out.size));have HW := hid9 (HTT.out w1 (H.out.grow HG.out));clear hm hg q1 q2 q3 K;go_wp2_with fail;refine (KN.out _ HW.out).mono ?_;rintro e w2 ⟨rfl, hb⟩;have HEND := hid9 (MStep.next HG.out Q1.out Q2.out Q3.out (HM.out.step hb (.string n)));clear hb;go_wp2;go_ret;exact HEND.out
structure KAt (w : World) (p : Nat) (u1 u2 u3 : Value) (a : Option Addr) (keys : List ByteArray) : Prop where
 rd : Reads w a 1 encS keys
 far : ∀ b o, a = some ⟨b, o, none⟩ → b < w.heap.size ∧ b ≠ p ∧ u1.ownBlock ≠ some b ∧ u2.ownBlock ≠ some b ∧ u3.ownBlock ≠ some b
end
theorem Reads.grow {α : Type} {w w' : World} {a : Option Addr} {k : Nat} {enc : α → List Value} {xs : List α} (h : Reads w a k enc xs) (hs : w.heap.size ≤ w'.heap.size) (hb : ∀ b o, a = some ⟨b, o, none⟩ → w'.heap[b]? = w.heap[b]?) : Reads w' a k enc xs := by
 rcases h with h | ⟨b, o, rfl, hlt, h⟩
 ·exact .inl h
 ·refine .inr ⟨b, o, rfl, Nat.lt_of_lt_of_le hlt hs, ?_⟩;have e := hb b o rfl;intro i x hx j v hv;rw [← h i x hx j v hv];simp only [World.cell?, e]
theorem KAt.grow {w w' : World} {p : Nat} {u1 u2 u3 x1 x2 x3 : Value} {a : Option Addr} {keys : List ByteArray} (h : KAt w p u1 u2 u3 a keys) (hg : Grow3 w w' p u1 u2 u3) (q1 : OwnOr w u1 x1) (q2 : OwnOr w u2 x2) (q3 : OwnOr w u3 x3) : KAt w' p x1 x2 x3 a keys :=
 ⟨h.rd.grow hg.size (fun b o e => by obtain ⟨h1, h2, h3, h4, h5⟩ := h.far b o e; exact hg.block b h1 h2 h3 h4 h5),
  fun b o e => by obtain ⟨h1, h2, h3, h4, h5⟩ := h.far b o e; exact ⟨Nat.lt_of_lt_of_le h1 hg.size, h2, q1.ne h1 h3, q2.ne h1 h4, q3.ne h1 h5⟩⟩
def MKeys (p base : Nat) (v1 v2 v3 : Value) (m' : Mch) (keys : List ByteArray) (w : World) (e : Ending) (w' : World) : Prop :=
 ∃ u1 u2 u3 a c, e = .returned (.slice a keys.length c) ∧ MAt w' p base u1 u2 u3 m' ∧ Grow3 w w' p v1 v2 v3 ∧ OwnOr w v1 u1 ∧ OwnOr w v2 u2 ∧ OwnOr w v3 u3 ∧ KAt w' p u1 u2 u3 a keys
theorem pUnder_c (p base : Nat) (v1 v2 v3 : Value) (m m' : Mch) (ks : List ByteArray) (pre : ByteArray) (w : World) (h : MAt w p base v1 v2 v3 m) (ho : MOk 2000000000000 m) (hp : pre.size ≤ 1000) (E : (underP pre).run m = (m', ks)) :
 Calls prog 160 #[.pointer (some ⟨p, 0, none⟩), .string pre] w (MKeys p base v1 v2 v3 m' ks w) := by
 obtain ⟨e1, e2⟩ := Prod.mk.inj (show (lookM m (starK pre), keysU m.st pre) = (m', ks) from E);subst e1 e2;clear E;have H := hid9 h;have K := hid9 (addSpan_c v2 base m.rs (starK pre) w (by have := ho.l2; omega) h.o2 h.hb);have c1 := h.box.cell 1 _ rfl;have hl := ho.l1;have HSZ := hid9 ho.sz;have had : ∀ t, binOp .add t (.string pre) (.string ⟨#[42]⟩) = pure (.string (starK pre)) := fun t => by
  rw [binOp_string_add];unfold Op.stringOp;simp only;rw [if_neg]
  ·rfl
  ·show ¬ (((pre.size + 1 : Nat) : Int) > 9223372036854775807);omega
 clear h ho;go_enter func160, ntmps160;go_wp2_with fail;refine K.out.mono ?_;rintro e w1 ⟨u, rfl, ho, hg, hor⟩;obtain ⟨au, ku, hvu, _⟩ := reads_of_owns encS_len ho;subst hvu;obtain ⟨hs, hgr, hbx⟩ := H.out.set2 (xs := addS m.rs (starK pre)) ho hg hor;have HS := hid9 hs;have HG := hid9 hgr;have HOR := hid9 hor;have d1 := hbx.cell 1 _ rfl;have z1 := hbx.free 1;have d0 := hbx.cell 0 _ rfl;obtain ⟨a1, k1, hv1, hrd⟩ := reads_of_owns encC_len hs.o1;subst hv1;have KU := hid9 (implKeysUnder_c a1 k1 m.st pre _ (by omega) hrd (fun x hx => by have := HSZ.out x hx; unfold maxLen; omega) (by unfold maxLen; omega));clear ho hg hor hs hgr hbx c1 hrd K;go_wp2_with fail;refine KU.out.mono ?_;rintro e w3 ⟨vk, rfl, hok, hb3⟩;have hlt := hok.lt;obtain ⟨ak, ck, hvk, rk, _, _⟩ := reads_of_owns' encS_len hok;subst hvk;have HS3 := hid9 (HS.out.below hb3);have HEND := hid9 (show MKeys p base (.slice a1 m.st.length k1) v2 v3 (lookM m (starK pre)) (keysU m.st pre) w (.returned (.slice ak (keysU m.st pre).length ck)) w3 from
  ⟨_, _, _, ak, ck, rfl, HS3.out, HG.out.trans (.inl rfl) HOR.out (.inl rfl) (Grow3.of_below hb3), .inl rfl, HOR.out, .inl rfl, rk, fun b o e => by
   subst e;have hb := hlt b rfl;refine ⟨hb.2, ?_, ?_, ?_, ?_⟩
   ·have := HS.out.box.1; omega
   ·intro e; have := (HS.out.o1.lt b e).2; omega
   ·intro e; have := (HS.out.o2.lt b e).2; omega
   ·intro e; have := (HS.out.o3.lt b e).2; omega⟩)
 clear hb3 hok KU HS HG HOR d0 d1 z1 rk hlt HS3;go_wp2;go_ret;exact HEND.out
end
end Go.Proofs.YtihghflppegnmaaGreatDoor
