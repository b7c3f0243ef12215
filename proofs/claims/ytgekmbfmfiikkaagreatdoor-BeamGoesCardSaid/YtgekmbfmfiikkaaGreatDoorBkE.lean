/-
  A book's lists that are empty: nothing is filled, nothing grows, all is found.
-/
import Derived.Test.YtgekmbfmfiikkaaGreatDoorBkP
namespace Go.Proofs.YtgekmbfmfiikkaaGreatDoor
open Go.RowKit
abbrev NoneB (F : FuncId) (i : Nat) (v : Value) : Prop := ∀ (B : Nat) (w : World), w.cell? ⟨B, i, none⟩ = some (.slice none 0 0) → Calls Tryz.prog F #[.pointer (some ⟨B, 0, none⟩)] w fun e w' => e = .returned v ∧ w = w'
theorem fillNumber_none : NoneB 61 2 (.tuple #[]) := by
 intro B w h
 go_enter Tryz.func61, Tryz.ntmps61
 go_wp2_with fail
 go_loopw [2] (fun i wr => i = .int .i64 0 ∧ wr = w) (fun _ _ => 0)
 case atStart => exact ⟨rfl, rfl⟩
 case round =>
  obtain ⟨rfl, rfl⟩ := hrel
  go_wp2_with fail
  exact bodyPost_end (v := .tuple #[]) (by simp [results, Tryz.results61]) rfl ⟨rfl, rfl⟩
theorem growNumber_none : NoneB 77 2 (.tuple #[]) := by
 intro B w h
 go_enter Tryz.func77, Tryz.ntmps77
 go_wp2_with fail
 go_loopw [2] (fun i wr => i = .int .i64 0 ∧ wr = w) (fun _ _ => 0)
 case atStart => exact ⟨rfl, rfl⟩
 case round =>
  obtain ⟨rfl, rfl⟩ := hrel
  go_wp2_with fail
  exact bodyPost_end (v := .tuple #[]) (by simp [results, Tryz.results77]) rfl ⟨rfl, rfl⟩
theorem lookNumber_none : NoneB 93 2 (.bool true) := by
 intro B w h
 go_enter Tryz.func93, Tryz.ntmps93
 go_wp2_with fail
 go_loopw [3] (fun i wr => i = .int .i64 0 ∧ wr = w) (fun _ _ => 0)
 case atStart => exact ⟨rfl, rfl⟩
 case round =>
  obtain ⟨rfl, rfl⟩ := hrel
  go_wp2_with fail
  go_ret
  exact ⟨rfl, rfl⟩
theorem fillFloat_none : NoneB 62 3 (.tuple #[]) := by
 intro B w h
 go_enter Tryz.func62, Tryz.ntmps62
 go_wp2_with fail
 go_loopw [2] (fun i wr => i = .int .i64 0 ∧ wr = w) (fun _ _ => 0)
 case atStart => exact ⟨rfl, rfl⟩
 case round =>
  obtain ⟨rfl, rfl⟩ := hrel
  go_wp2_with fail
  exact bodyPost_end (v := .tuple #[]) (by simp [results, Tryz.results62]) rfl ⟨rfl, rfl⟩
theorem growFloat_none : NoneB 78 3 (.tuple #[]) := by
 intro B w h
 go_enter Tryz.func78, Tryz.ntmps78
 go_wp2_with fail
 go_loopw [2] (fun i wr => i = .int .i64 0 ∧ wr = w) (fun _ _ => 0)
 case atStart => exact ⟨rfl, rfl⟩
 case round =>
  obtain ⟨rfl, rfl⟩ := hrel
  go_wp2_with fail
  exact bodyPost_end (v := .tuple #[]) (by simp [results, Tryz.results78]) rfl ⟨rfl, rfl⟩
theorem lookFloat_none : NoneB 94 3 (.bool true) := by
 intro B w h
 go_enter Tryz.func94, Tryz.ntmps94
 go_wp2_with fail
 go_loopw [3] (fun i wr => i = .int .i64 0 ∧ wr = w) (fun _ _ => 0)
 case atStart => exact ⟨rfl, rfl⟩
 case round =>
  obtain ⟨rfl, rfl⟩ := hrel
  go_wp2_with fail
  go_ret
  exact ⟨rfl, rfl⟩
theorem fillComplex_none : NoneB 63 4 (.tuple #[]) := by
 intro B w h
 go_enter Tryz.func63, Tryz.ntmps63
 go_wp2_with fail
 go_loopw [2] (fun i wr => i = .int .i64 0 ∧ wr = w) (fun _ _ => 0)
 case atStart => exact ⟨rfl, rfl⟩
 case round =>
  obtain ⟨rfl, rfl⟩ := hrel
  go_wp2_with fail
  exact bodyPost_end (v := .tuple #[]) (by simp [results, Tryz.results63]) rfl ⟨rfl, rfl⟩
theorem growComplex_none : NoneB 79 4 (.tuple #[]) := by
 intro B w h
 go_enter Tryz.func79, Tryz.ntmps79
 go_wp2_with fail
 go_loopw [2] (fun i wr => i = .int .i64 0 ∧ wr = w) (fun _ _ => 0)
 case atStart => exact ⟨rfl, rfl⟩
 case round =>
  obtain ⟨rfl, rfl⟩ := hrel
  go_wp2_with fail
  exact bodyPost_end (v := .tuple #[]) (by simp [results, Tryz.results79]) rfl ⟨rfl, rfl⟩
theorem lookComplex_none : NoneB 95 4 (.bool true) := by
 intro B w h
 go_enter Tryz.func95, Tryz.ntmps95
 go_wp2_with fail
 go_loopw [3] (fun i wr => i = .int .i64 0 ∧ wr = w) (fun _ _ => 0)
 case atStart => exact ⟨rfl, rfl⟩
 case round =>
  obtain ⟨rfl, rfl⟩ := hrel
  go_wp2_with fail
  go_ret
  exact ⟨rfl, rfl⟩
theorem fillText_none : NoneB 64 5 (.tuple #[]) := by
 intro B w h
 go_enter Tryz.func64, Tryz.ntmps64
 go_wp2_with fail
 go_loopw [2] (fun i wr => i = .int .i64 0 ∧ wr = w) (fun _ _ => 0)
 case atStart => exact ⟨rfl, rfl⟩
 case round =>
  obtain ⟨rfl, rfl⟩ := hrel
  go_wp2_with fail
  exact bodyPost_end (v := .tuple #[]) (by simp [results, Tryz.results64]) rfl ⟨rfl, rfl⟩
theorem growText_none : NoneB 80 5 (.tuple #[]) := by
 intro B w h
 go_enter Tryz.func80, Tryz.ntmps80
 go_wp2_with fail
 go_loopw [2] (fun i wr => i = .int .i64 0 ∧ wr = w) (fun _ _ => 0)
 case atStart => exact ⟨rfl, rfl⟩
 case round =>
  obtain ⟨rfl, rfl⟩ := hrel
  go_wp2_with fail
  exact bodyPost_end (v := .tuple #[]) (by simp [results, Tryz.results80]) rfl ⟨rfl, rfl⟩
theorem lookText_none : NoneB 96 5 (.bool true) := by
 intro B w h
 go_enter Tryz.func96, Tryz.ntmps96
 go_wp2_with fail
 go_loopw [3] (fun i wr => i = .int .i64 0 ∧ wr = w) (fun _ _ => 0)
 case atStart => exact ⟨rfl, rfl⟩
 case round =>
  obtain ⟨rfl, rfl⟩ := hrel
  go_wp2_with fail
  go_ret
  exact ⟨rfl, rfl⟩
theorem fillFrac_none : NoneB 65 6 (.tuple #[]) := by
 intro B w h
 go_enter Tryz.func65, Tryz.ntmps65
 go_wp2_with fail
 go_loopw [2] (fun i wr => i = .int .i64 0 ∧ wr = w) (fun _ _ => 0)
 case atStart => exact ⟨rfl, rfl⟩
 case round =>
  obtain ⟨rfl, rfl⟩ := hrel
  go_wp2_with fail
  exact bodyPost_end (v := .tuple #[]) (by simp [results, Tryz.results65]) rfl ⟨rfl, rfl⟩
theorem growFrac_none : NoneB 81 6 (.tuple #[]) := by
 intro B w h
 go_enter Tryz.func81, Tryz.ntmps81
 go_wp2_with fail
 go_loopw [2] (fun i wr => i = .int .i64 0 ∧ wr = w) (fun _ _ => 0)
 case atStart => exact ⟨rfl, rfl⟩
 case round =>
  obtain ⟨rfl, rfl⟩ := hrel
  go_wp2_with fail
  exact bodyPost_end (v := .tuple #[]) (by simp [results, Tryz.results81]) rfl ⟨rfl, rfl⟩
theorem lookFrac_none : NoneB 97 6 (.bool true) := by
 intro B w h
 go_enter Tryz.func97, Tryz.ntmps97
 go_wp2_with fail
 go_loopw [3] (fun i wr => i = .int .i64 0 ∧ wr = w) (fun _ _ => 0)
 case atStart => exact ⟨rfl, rfl⟩
 case round =>
  obtain ⟨rfl, rfl⟩ := hrel
  go_wp2_with fail
  go_ret
  exact ⟨rfl, rfl⟩
theorem fillGauss_none : NoneB 66 7 (.tuple #[]) := by
 intro B w h
 go_enter Tryz.func66, Tryz.ntmps66
 go_wp2_with fail
 go_loopw [2] (fun i wr => i = .int .i64 0 ∧ wr = w) (fun _ _ => 0)
 case atStart => exact ⟨rfl, rfl⟩
 case round =>
  obtain ⟨rfl, rfl⟩ := hrel
  go_wp2_with fail
  exact bodyPost_end (v := .tuple #[]) (by simp [results, Tryz.results66]) rfl ⟨rfl, rfl⟩
theorem growGauss_none : NoneB 82 7 (.tuple #[]) := by
 intro B w h
 go_enter Tryz.func82, Tryz.ntmps82
 go_wp2_with fail
 go_loopw [2] (fun i wr => i = .int .i64 0 ∧ wr = w) (fun _ _ => 0)
 case atStart => exact ⟨rfl, rfl⟩
 case round =>
  obtain ⟨rfl, rfl⟩ := hrel
  go_wp2_with fail
  exact bodyPost_end (v := .tuple #[]) (by simp [results, Tryz.results82]) rfl ⟨rfl, rfl⟩
theorem lookGauss_none : NoneB 98 7 (.bool true) := by
 intro B w h
 go_enter Tryz.func98, Tryz.ntmps98
 go_wp2_with fail
 go_loopw [3] (fun i wr => i = .int .i64 0 ∧ wr = w) (fun _ _ => 0)
 case atStart => exact ⟨rfl, rfl⟩
 case round =>
  obtain ⟨rfl, rfl⟩ := hrel
  go_wp2_with fail
  go_ret
  exact ⟨rfl, rfl⟩
theorem fillRay_none : NoneB 67 8 (.tuple #[]) := by
 intro B w h
 go_enter Tryz.func67, Tryz.ntmps67
 go_wp2_with fail
 go_loopw [2] (fun i wr => i = .int .i64 0 ∧ wr = w) (fun _ _ => 0)
 case atStart => exact ⟨rfl, rfl⟩
 case round =>
  obtain ⟨rfl, rfl⟩ := hrel
  go_wp2_with fail
  exact bodyPost_end (v := .tuple #[]) (by simp [results, Tryz.results67]) rfl ⟨rfl, rfl⟩
theorem growRay_none : NoneB 83 8 (.tuple #[]) := by
 intro B w h
 go_enter Tryz.func83, Tryz.ntmps83
 go_wp2_with fail
 go_loopw [2] (fun i wr => i = .int .i64 0 ∧ wr = w) (fun _ _ => 0)
 case atStart => exact ⟨rfl, rfl⟩
 case round =>
  obtain ⟨rfl, rfl⟩ := hrel
  go_wp2_with fail
  exact bodyPost_end (v := .tuple #[]) (by simp [results, Tryz.results83]) rfl ⟨rfl, rfl⟩
theorem lookRay_none : NoneB 99 8 (.bool true) := by
 intro B w h
 go_enter Tryz.func99, Tryz.ntmps99
 go_wp2_with fail
 go_loopw [3] (fun i wr => i = .int .i64 0 ∧ wr = w) (fun _ _ => 0)
 case atStart => exact ⟨rfl, rfl⟩
 case round =>
  obtain ⟨rfl, rfl⟩ := hrel
  go_wp2_with fail
  go_ret
  exact ⟨rfl, rfl⟩
theorem fillElement_none : NoneB 68 9 (.tuple #[]) := by
 intro B w h
 go_enter Tryz.func68, Tryz.ntmps68
 go_wp2_with fail
 go_loopw [2] (fun i wr => i = .int .i64 0 ∧ wr = w) (fun _ _ => 0)
 case atStart => exact ⟨rfl, rfl⟩
 case round =>
  obtain ⟨rfl, rfl⟩ := hrel
  go_wp2_with fail
  exact bodyPost_end (v := .tuple #[]) (by simp [results, Tryz.results68]) rfl ⟨rfl, rfl⟩
theorem growElement_none : NoneB 84 9 (.tuple #[]) := by
 intro B w h
 go_enter Tryz.func84, Tryz.ntmps84
 go_wp2_with fail
 go_loopw [2] (fun i wr => i = .int .i64 0 ∧ wr = w) (fun _ _ => 0)
 case atStart => exact ⟨rfl, rfl⟩
 case round =>
  obtain ⟨rfl, rfl⟩ := hrel
  go_wp2_with fail
  exact bodyPost_end (v := .tuple #[]) (by simp [results, Tryz.results84]) rfl ⟨rfl, rfl⟩
theorem lookElement_none : NoneB 100 9 (.bool true) := by
 intro B w h
 go_enter Tryz.func100, Tryz.ntmps100
 go_wp2_with fail
 go_loopw [3] (fun i wr => i = .int .i64 0 ∧ wr = w) (fun _ _ => 0)
 case atStart => exact ⟨rfl, rfl⟩
 case round =>
  obtain ⟨rfl, rfl⟩ := hrel
  go_wp2_with fail
  go_ret
  exact ⟨rfl, rfl⟩
theorem fillCoat_none : NoneB 69 10 (.tuple #[]) := by
 intro B w h
 go_enter Tryz.func69, Tryz.ntmps69
 go_wp2_with fail
 go_loopw [2] (fun i wr => i = .int .i64 0 ∧ wr = w) (fun _ _ => 0)
 case atStart => exact ⟨rfl, rfl⟩
 case round =>
  obtain ⟨rfl, rfl⟩ := hrel
  go_wp2_with fail
  exact bodyPost_end (v := .tuple #[]) (by simp [results, Tryz.results69]) rfl ⟨rfl, rfl⟩
theorem growCoat_none : NoneB 85 10 (.tuple #[]) := by
 intro B w h
 go_enter Tryz.func85, Tryz.ntmps85
 go_wp2_with fail
 go_loopw [2] (fun i wr => i = .int .i64 0 ∧ wr = w) (fun _ _ => 0)
 case atStart => exact ⟨rfl, rfl⟩
 case round =>
  obtain ⟨rfl, rfl⟩ := hrel
  go_wp2_with fail
  exact bodyPost_end (v := .tuple #[]) (by simp [results, Tryz.results85]) rfl ⟨rfl, rfl⟩
theorem lookCoat_none : NoneB 101 10 (.bool true) := by
 intro B w h
 go_enter Tryz.func101, Tryz.ntmps101
 go_wp2_with fail
 go_loopw [3] (fun i wr => i = .int .i64 0 ∧ wr = w) (fun _ _ => 0)
 case atStart => exact ⟨rfl, rfl⟩
 case round =>
  obtain ⟨rfl, rfl⟩ := hrel
  go_wp2_with fail
  go_ret
  exact ⟨rfl, rfl⟩
theorem fillDisc_none : NoneB 70 11 (.tuple #[]) := by
 intro B w h
 go_enter Tryz.func70, Tryz.ntmps70
 go_wp2_with fail
 go_loopw [2] (fun i wr => i = .int .i64 0 ∧ wr = w) (fun _ _ => 0)
 case atStart => exact ⟨rfl, rfl⟩
 case round =>
  obtain ⟨rfl, rfl⟩ := hrel
  go_wp2_with fail
  exact bodyPost_end (v := .tuple #[]) (by simp [results, Tryz.results70]) rfl ⟨rfl, rfl⟩
theorem growDisc_none : NoneB 86 11 (.tuple #[]) := by
 intro B w h
 go_enter Tryz.func86, Tryz.ntmps86
 go_wp2_with fail
 go_loopw [2] (fun i wr => i = .int .i64 0 ∧ wr = w) (fun _ _ => 0)
 case atStart => exact ⟨rfl, rfl⟩
 case round =>
  obtain ⟨rfl, rfl⟩ := hrel
  go_wp2_with fail
  exact bodyPost_end (v := .tuple #[]) (by simp [results, Tryz.results86]) rfl ⟨rfl, rfl⟩
theorem lookDisc_none : NoneB 102 11 (.bool true) := by
 intro B w h
 go_enter Tryz.func102, Tryz.ntmps102
 go_wp2_with fail
 go_loopw [3] (fun i wr => i = .int .i64 0 ∧ wr = w) (fun _ _ => 0)
 case atStart => exact ⟨rfl, rfl⟩
 case round =>
  obtain ⟨rfl, rfl⟩ := hrel
  go_wp2_with fail
  go_ret
  exact ⟨rfl, rfl⟩
theorem fillPart_none : NoneB 71 12 (.tuple #[]) := by
 intro B w h
 go_enter Tryz.func71, Tryz.ntmps71
 go_wp2_with fail
 go_loopw [2] (fun i wr => i = .int .i64 0 ∧ wr = w) (fun _ _ => 0)
 case atStart => exact ⟨rfl, rfl⟩
 case round =>
  obtain ⟨rfl, rfl⟩ := hrel
  go_wp2_with fail
  exact bodyPost_end (v := .tuple #[]) (by simp [results, Tryz.results71]) rfl ⟨rfl, rfl⟩
theorem growPart_none : NoneB 87 12 (.tuple #[]) := by
 intro B w h
 go_enter Tryz.func87, Tryz.ntmps87
 go_wp2_with fail
 go_loopw [2] (fun i wr => i = .int .i64 0 ∧ wr = w) (fun _ _ => 0)
 case atStart => exact ⟨rfl, rfl⟩
 case round =>
  obtain ⟨rfl, rfl⟩ := hrel
  go_wp2_with fail
  exact bodyPost_end (v := .tuple #[]) (by simp [results, Tryz.results87]) rfl ⟨rfl, rfl⟩
theorem lookPart_none : NoneB 103 12 (.bool true) := by
 intro B w h
 go_enter Tryz.func103, Tryz.ntmps103
 go_wp2_with fail
 go_loopw [3] (fun i wr => i = .int .i64 0 ∧ wr = w) (fun _ _ => 0)
 case atStart => exact ⟨rfl, rfl⟩
 case round =>
  obtain ⟨rfl, rfl⟩ := hrel
  go_wp2_with fail
  go_ret
  exact ⟨rfl, rfl⟩
theorem fillDef_none : NoneB 72 13 (.tuple #[]) := by
 intro B w h
 go_enter Tryz.func72, Tryz.ntmps72
 go_wp2_with fail
 go_loopw [2] (fun i wr => i = .int .i64 0 ∧ wr = w) (fun _ _ => 0)
 case atStart => exact ⟨rfl, rfl⟩
 case round =>
  obtain ⟨rfl, rfl⟩ := hrel
  go_wp2_with fail
  exact bodyPost_end (v := .tuple #[]) (by simp [results, Tryz.results72]) rfl ⟨rfl, rfl⟩
theorem growDef_none : NoneB 88 13 (.tuple #[]) := by
 intro B w h
 go_enter Tryz.func88, Tryz.ntmps88
 go_wp2_with fail
 go_loopw [2] (fun i wr => i = .int .i64 0 ∧ wr = w) (fun _ _ => 0)
 case atStart => exact ⟨rfl, rfl⟩
 case round =>
  obtain ⟨rfl, rfl⟩ := hrel
  go_wp2_with fail
  exact bodyPost_end (v := .tuple #[]) (by simp [results, Tryz.results88]) rfl ⟨rfl, rfl⟩
theorem lookDef_none : NoneB 104 13 (.bool true) := by
 intro B w h
 go_enter Tryz.func104, Tryz.ntmps104
 go_wp2_with fail
 go_loopw [3] (fun i wr => i = .int .i64 0 ∧ wr = w) (fun _ _ => 0)
 case atStart => exact ⟨rfl, rfl⟩
 case round =>
  obtain ⟨rfl, rfl⟩ := hrel
  go_wp2_with fail
  go_ret
  exact ⟨rfl, rfl⟩
theorem fillItem_none : NoneB 73 14 (.tuple #[]) := by
 intro B w h
 go_enter Tryz.func73, Tryz.ntmps73
 go_wp2_with fail
 go_loopw [2] (fun i wr => i = .int .i64 0 ∧ wr = w) (fun _ _ => 0)
 case atStart => exact ⟨rfl, rfl⟩
 case round =>
  obtain ⟨rfl, rfl⟩ := hrel
  go_wp2_with fail
  exact bodyPost_end (v := .tuple #[]) (by simp [results, Tryz.results73]) rfl ⟨rfl, rfl⟩
theorem growItem_none : NoneB 89 14 (.tuple #[]) := by
 intro B w h
 go_enter Tryz.func89, Tryz.ntmps89
 go_wp2_with fail
 go_loopw [2] (fun i wr => i = .int .i64 0 ∧ wr = w) (fun _ _ => 0)
 case atStart => exact ⟨rfl, rfl⟩
 case round =>
  obtain ⟨rfl, rfl⟩ := hrel
  go_wp2_with fail
  exact bodyPost_end (v := .tuple #[]) (by simp [results, Tryz.results89]) rfl ⟨rfl, rfl⟩
theorem lookItem_none : NoneB 105 14 (.bool true) := by
 intro B w h
 go_enter Tryz.func105, Tryz.ntmps105
 go_wp2_with fail
 go_loopw [3] (fun i wr => i = .int .i64 0 ∧ wr = w) (fun _ _ => 0)
 case atStart => exact ⟨rfl, rfl⟩
 case round =>
  obtain ⟨rfl, rfl⟩ := hrel
  go_wp2_with fail
  go_ret
  exact ⟨rfl, rfl⟩
theorem fillAct_none : NoneB 74 15 (.tuple #[]) := by
 intro B w h
 go_enter Tryz.func74, Tryz.ntmps74
 go_wp2_with fail
 go_loopw [2] (fun i wr => i = .int .i64 0 ∧ wr = w) (fun _ _ => 0)
 case atStart => exact ⟨rfl, rfl⟩
 case round =>
  obtain ⟨rfl, rfl⟩ := hrel
  go_wp2_with fail
  exact bodyPost_end (v := .tuple #[]) (by simp [results, Tryz.results74]) rfl ⟨rfl, rfl⟩
theorem growAct_none : NoneB 90 15 (.tuple #[]) := by
 intro B w h
 go_enter Tryz.func90, Tryz.ntmps90
 go_wp2_with fail
 go_loopw [2] (fun i wr => i = .int .i64 0 ∧ wr = w) (fun _ _ => 0)
 case atStart => exact ⟨rfl, rfl⟩
 case round =>
  obtain ⟨rfl, rfl⟩ := hrel
  go_wp2_with fail
  exact bodyPost_end (v := .tuple #[]) (by simp [results, Tryz.results90]) rfl ⟨rfl, rfl⟩
theorem lookAct_none : NoneB 106 15 (.bool true) := by
 intro B w h
 go_enter Tryz.func106, Tryz.ntmps106
 go_wp2_with fail
 go_loopw [3] (fun i wr => i = .int .i64 0 ∧ wr = w) (fun _ _ => 0)
 case atStart => exact ⟨rfl, rfl⟩
 case round =>
  obtain ⟨rfl, rfl⟩ := hrel
  go_wp2_with fail
  go_ret
  exact ⟨rfl, rfl⟩
theorem fillReply_none : NoneB 75 16 (.tuple #[]) := by
 intro B w h
 go_enter Tryz.func75, Tryz.ntmps75
 go_wp2_with fail
 go_loopw [2] (fun i wr => i = .int .i64 0 ∧ wr = w) (fun _ _ => 0)
 case atStart => exact ⟨rfl, rfl⟩
 case round =>
  obtain ⟨rfl, rfl⟩ := hrel
  go_wp2_with fail
  exact bodyPost_end (v := .tuple #[]) (by simp [results, Tryz.results75]) rfl ⟨rfl, rfl⟩
theorem growReply_none : NoneB 91 16 (.tuple #[]) := by
 intro B w h
 go_enter Tryz.func91, Tryz.ntmps91
 go_wp2_with fail
 go_loopw [2] (fun i wr => i = .int .i64 0 ∧ wr = w) (fun _ _ => 0)
 case atStart => exact ⟨rfl, rfl⟩
 case round =>
  obtain ⟨rfl, rfl⟩ := hrel
  go_wp2_with fail
  exact bodyPost_end (v := .tuple #[]) (by simp [results, Tryz.results91]) rfl ⟨rfl, rfl⟩
theorem lookReply_none : NoneB 107 16 (.bool true) := by
 intro B w h
 go_enter Tryz.func107, Tryz.ntmps107
 go_wp2_with fail
 go_loopw [3] (fun i wr => i = .int .i64 0 ∧ wr = w) (fun _ _ => 0)
 case atStart => exact ⟨rfl, rfl⟩
 case round =>
  obtain ⟨rfl, rfl⟩ := hrel
  go_wp2_with fail
  go_ret
  exact ⟨rfl, rfl⟩
end Go.Proofs.YtgekmbfmfiikkaaGreatDoor
