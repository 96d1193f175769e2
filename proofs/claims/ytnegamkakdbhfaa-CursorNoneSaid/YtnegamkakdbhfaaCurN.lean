/- 'CursorNone': a cursor that is none. -/
import Derived.Test.YtnegamkakdbhfaaCurL
import Derived.WalkSpells
import Derived.WalkLawsBesides
import Derived.Deep.QuietTactic
import Derived.BigQuiet
namespace Go.Proofs.Ytnegamkakdbhfaa
open Go.RowKit

section
variable (w : World)
theorem none_peek : Calls Try.prog 39 #[.pointer none] w fun e w' => e = .returned (tokV Tok.zero) ∧ Ext w w' := by
  go_enter Try.func39, Try.ntmps39
  go_wp2_with (go_at_call 71; refine (none_failed _).mono ?_; rintro e w' ⟨rfl, rfl⟩)
  exact bodyPost_ret (v := tokV Tok.zero) (by simp [results, Try.results39, go_sem, Tok.zero]) rfl ⟨rfl, (by repeat (first | exact Ext.refl _ | exact Ext.alloc (by assumption) _ | refine Ext.alloc ?_ _ | refine Ext.more ?_ _ _ | refine Ext.drew ?_ | refine Ext.drewN ?_ _))⟩
theorem none_fail (x : Int) : Calls Try.prog 36 #[.pointer none, .int .i64 x] w fun e w' => e = .returned (.bool false) ∧ Ext w w' := by
  go_enter Try.func36, Try.ntmps36
  go_wp2_with (go_at_call 71; refine (none_failed _).mono ?_; rintro e w' ⟨rfl, rfl⟩)
  go_ret
  exact ⟨rfl, (by repeat (first | exact Ext.refl _ | exact Ext.alloc (by assumption) _ | refine Ext.alloc ?_ _ | refine Ext.more ?_ _ _ | refine Ext.drew ?_ | refine Ext.drewN ?_ _))⟩
theorem none_next : Calls Try.prog 20 #[.pointer none] w fun e w' => e = .returned (tokV Tok.zero) ∧ Ext w w' := by
  go_enter Try.func20, Try.ntmps20
  go_wp2_with fail
  refine (none_peek _).mono ?_
  rintro e w' ⟨rfl, l1, d1, rfl⟩
  go_wp2
  go_quiet ((go_at_call 71; exact Calls.quiet_of_same (none_failed _)))
  go_wp2
  exact bodyPost_ret (v := tokV Tok.zero) (by simp [results, Try.results20, go_sem, Tok.zero]) rfl ⟨rfl, (by repeat (first | exact Ext.refl _ | exact Ext.alloc (by assumption) _ | refine Ext.alloc ?_ _ | refine Ext.more ?_ _ _ | refine Ext.drew ?_ | refine Ext.drewN ?_ _))⟩
theorem none_is (s : ByteArray) : Calls Try.prog 21 #[.pointer none, .string s] w fun e w' => e = .returned (.bool false) ∧ Ext w w' := by
  go_enter Try.func21, Try.ntmps21
  go_wp2_with (go_at_call 71; refine (none_failed _).mono ?_; rintro e w' ⟨rfl, rfl⟩)
  go_ret
  exact ⟨rfl, (by repeat (first | exact Ext.refl _ | exact Ext.alloc (by assumption) _ | refine Ext.alloc ?_ _ | refine Ext.more ?_ _ _ | refine Ext.drew ?_ | refine Ext.drewN ?_ _))⟩
theorem none_take (s : ByteArray) : Calls Try.prog 24 #[.pointer none, .string s] w fun e w' => e = .returned (.bool false) ∧ Ext w w' := by
  go_enter Try.func24, Try.ntmps24
  go_wp2_with fail
  refine (none_is _ _).mono ?_
  rintro e w' ⟨rfl, l1, d1, rfl⟩
  go_wp2
  go_ret
  exact ⟨rfl, (by repeat (first | exact Ext.refl _ | exact Ext.alloc (by assumption) _ | refine Ext.alloc ?_ _ | refine Ext.more ?_ _ _ | refine Ext.drew ?_ | refine Ext.drewN ?_ _))⟩
theorem none_want (s : ByteArray) : Calls Try.prog 26 #[.pointer none, .string s] w fun e w' => e = .returned (.bool false) ∧ Ext w w' := by
  go_enter Try.func26, Try.ntmps26
  go_wp2_with fail
  refine (none_take _ _).mono ?_
  rintro e w' ⟨rfl, l1, d1, rfl⟩
  go_wp2_with fail
  refine (none_fail _ _).mono ?_
  rintro e w' ⟨rfl, l2, d2, rfl⟩
  go_wp2
  go_ret
  exact ⟨rfl, (by repeat (first | exact Ext.refl _ | exact Ext.alloc (by assumption) _ | refine Ext.alloc ?_ _ | refine Ext.more ?_ _ _ | refine Ext.drew ?_ | refine Ext.drewN ?_ _))⟩
theorem none_kind (x : Int) : Calls Try.prog 28 #[.pointer none, .int .i64 x] w fun e w' => e = .returned (.tuple #[tokV Tok.zero, .bool false]) ∧ Ext w w' := by
  go_enter Try.func28, Try.ntmps28
  go_wp2_with (go_at_call 71; refine (none_failed _).mono ?_; rintro e w' ⟨rfl, rfl⟩)
  refine (none_fail _ _).mono ?_
  rintro e w' ⟨rfl, l2, d2, rfl⟩
  go_wp2
  exact bodyPost_ret (v := .tuple #[tokV Tok.zero, .bool false]) (by simp [results, Try.results28, go_sem, Tok.zero]) rfl ⟨rfl, (by repeat (first | exact Ext.refl _ | exact Ext.alloc (by assumption) _ | refine Ext.alloc ?_ _ | refine Ext.more ?_ _ _ | refine Ext.drew ?_ | refine Ext.drewN ?_ _))⟩
theorem none_ahead (s : ByteArray) : Calls Try.prog 29 #[.pointer none, .string s] w fun e w' => e = .returned (.bool false) ∧ Ext w w' := by
  go_enter Try.func29, Try.ntmps29
  go_wp2_with (go_at_call 71; refine (none_failed _).mono ?_; rintro e w' ⟨rfl, rfl⟩)
  go_ret
  exact ⟨rfl, (by repeat (first | exact Ext.refl _ | exact Ext.alloc (by assumption) _ | refine Ext.alloc ?_ _ | refine Ext.more ?_ _ _ | refine Ext.drew ?_ | refine Ext.drewN ?_ _))⟩
theorem none_enter : Calls Try.prog 32 #[.pointer none] w fun e w' => e = .returned (.bool false) ∧ Ext w w' := by
  go_enter Try.func32, Try.ntmps32
  go_wp2_with (go_at_call 71; refine (none_failed _).mono ?_; rintro e w' ⟨rfl, rfl⟩)
  refine (none_fail _ _).mono ?_
  rintro e w' ⟨rfl, l2, d2, rfl⟩
  go_wp2
  go_ret
  exact ⟨rfl, (by repeat (first | exact Ext.refl _ | exact Ext.alloc (by assumption) _ | refine Ext.alloc ?_ _ | refine Ext.more ?_ _ _ | refine Ext.drew ?_ | refine Ext.drewN ?_ _))⟩
theorem none_leave : Calls Try.prog 33 #[.pointer none] w fun e w' => e = .returned (.tuple #[]) ∧ Ext w w' := by
  go_enter Try.func33, Try.ntmps33
  go_wp2_with (go_at_call 71; refine (none_failed _).mono ?_; rintro e w' ⟨rfl, rfl⟩)
  go_end0
  exact ⟨rfl, (by repeat (first | exact Ext.refl _ | exact Ext.alloc (by assumption) _ | refine Ext.alloc ?_ _ | refine Ext.more ?_ _ _ | refine Ext.drew ?_ | refine Ext.drewN ?_ _))⟩
theorem none_done : Calls Try.prog 37 #[.pointer none] w fun e w' => e = .returned (.tuple #[.int .i64 0, .int .i64 1]) ∧ Ext w w' := by
  go_enter Try.func37, Try.ntmps37
  go_wp2
  go_ret2
  exact ⟨rfl, (by repeat (first | exact Ext.refl _ | exact Ext.alloc (by assumption) _ | refine Ext.alloc ?_ _ | refine Ext.more ?_ _ _ | refine Ext.drew ?_ | refine Ext.drewN ?_ _))⟩
end

@[go_sem] theorem zero_parts : Tok.zero.kind = 0 ∧ Tok.zero.pos = 0 ∧ Tok.zero.n = 0 ∧ Tok.zero.text = ⟨#[]⟩ := ⟨rfl, rfl, rfl, rfl⟩

set_option maxRecDepth 10000 in
set_option maxHeartbeats 1000000 in
theorem law_none (k n : Int) (s : ByteArray) (w : World) : Calls Try.prog 6 #[.agg #[.int .i64 k, .int .i64 n, .string s]] w fun e w' => e = .returned (.bool true) ∧ Ext w w' := by
  go_enter Try.func6, Try.ntmps6
  go_wp2_with (first
    | (go_at_call 33; refine (none_leave _).mono ?_; rintro e w' ⟨rfl, l1, d1, rfl⟩)
    | (go_at_call 28; refine (none_kind _ _).mono ?_; rintro e w' ⟨rfl, l1, d1, rfl⟩)
    | (go_at_call 37; refine (none_done _).mono ?_; rintro e w' ⟨rfl, l1, d1, rfl⟩)
    | (go_at_call 39; refine (none_peek _).mono ?_; rintro e w' ⟨rfl, l1, d1, rfl⟩)
    | (go_at_call 20; refine (none_next _).mono ?_; rintro e w' ⟨rfl, l1, d1, rfl⟩)
    | (go_at_call 21; refine (none_is _ _).mono ?_; rintro e w' ⟨rfl, l1, d1, rfl⟩)
    | (go_at_call 24; refine (none_take _ _).mono ?_; rintro e w' ⟨rfl, l1, d1, rfl⟩)
    | (go_at_call 26; refine (none_want _ _).mono ?_; rintro e w' ⟨rfl, l1, d1, rfl⟩)
    | (go_at_call 29; refine (none_ahead _ _).mono ?_; rintro e w' ⟨rfl, l1, d1, rfl⟩)
    | (go_at_call 32; refine (none_enter _).mono ?_; rintro e w' ⟨rfl, l1, d1, rfl⟩)
    | (go_at_call 36; refine (none_fail _ _).mono ?_; rintro e w' ⟨rfl, l1, d1, rfl⟩)
    | (go_at_call 16; refine (awake05 _).mono ?_; rintro e w' ⟨rfl, l1, d1, rfl⟩))
  go_ret
  exact ⟨rfl, (by repeat (first | exact Ext.refl _ | exact Ext.alloc (by assumption) _ | refine Ext.alloc ?_ _ | refine Ext.more ?_ _ _ | refine Ext.drew ?_ | refine Ext.drewN ?_ _))⟩

end Go.Proofs.Ytnegamkakdbhfaa
