/- A book of lists: kinds that hold nothing (printed by gen/mkbook.py). -/
import Derived.Test.YtkhieofknglknaaGreatDoorKBookK
namespace Go.Proofs.YtkhieofknglknaaGreatDoor
open Go.RowKit

section
variable (w : World) (p : Nat)
theorem stillTexts_nil (h : w.cell? ⟨p, 0, none⟩ = some (.slice none 0 0)) : Calls Tryz.prog 59 #[.pointer (some ⟨p, 0, none⟩)] w fun e w' => e = .returned (.bool true) ∧ w = w' := by
  go_enter Tryz.func59, Tryz.ntmps59
  go_wp2_with fail
  go_loopw [3] (fun t wr => t = .int .i64 0 ∧ wr = w) (fun _ _ => 0)
  case atStart => exact ⟨rfl, rfl⟩
  case round =>
    obtain ⟨rfl, rfl⟩ := hrel
    go_wp2_with fail
    go_ret
    exact ⟨rfl, rfl⟩
theorem putTexts_nil (h : w.cell? ⟨p, 0, none⟩ = some (.slice none 0 0)) : Calls Tryz.prog 77 #[.pointer (some ⟨p, 0, none⟩)] w fun e w' => e = .returned (.tuple #[]) ∧ w = w' := by
  go_enter Tryz.func77, Tryz.ntmps77
  go_wp2_with fail
  go_loopw [2] (fun t wr => t = .int .i64 0 ∧ wr = w) (fun _ _ => 0)
  case atStart => exact ⟨rfl, rfl⟩
  case round =>
    obtain ⟨rfl, rfl⟩ := hrel
    go_wp2_with fail
    go_end0
    exact ⟨rfl, rfl⟩
theorem growTexts_nil (h : w.cell? ⟨p, 0, none⟩ = some (.slice none 0 0)) : Calls Tryz.prog 89 #[.pointer (some ⟨p, 0, none⟩)] w fun e w' => e = .returned (.slice none 0 0) ∧ w = w' := by
  go_enter Tryz.func89, Tryz.ntmps89
  go_wp2_with fail
  go_loopw [3, 4] (fun t3 t4 wr => t3 = .slice none 0 0 ∧ t4 = .int .i64 0 ∧ wr = w) (fun _ _ _ => 0)
  case atStart => exact ⟨rfl, rfl, rfl⟩
  case round =>
    obtain ⟨rfl, rfl, rfl⟩ := hrel
    go_wp2_with fail
    go_ret
    exact ⟨rfl, rfl⟩
omit p in
theorem markedTexts_nil : Calls Tryz.prog 104 #[.slice none 0 0] w fun e w' => e = .returned (.bool true) ∧ w = w' := by
  go_enter Tryz.func104, Tryz.ntmps104
  go_wp2_with fail
  go_loopw [3] (fun t wr => t = .int .i64 0 ∧ wr = w) (fun _ _ => 0)
  case atStart => exact ⟨rfl, rfl⟩
  case round =>
    obtain ⟨rfl, rfl⟩ := hrel
    go_wp2_with fail
    go_ret
    exact ⟨rfl, rfl⟩
theorem stillInts_nil (h : w.cell? ⟨p, 2, none⟩ = some (.slice none 0 0)) : Calls Tryz.prog 60 #[.pointer (some ⟨p, 0, none⟩)] w fun e w' => e = .returned (.bool true) ∧ w = w' := by
  go_enter Tryz.func60, Tryz.ntmps60
  go_wp2_with fail
  go_loopw [3] (fun t wr => t = .int .i64 0 ∧ wr = w) (fun _ _ => 0)
  case atStart => exact ⟨rfl, rfl⟩
  case round =>
    obtain ⟨rfl, rfl⟩ := hrel
    go_wp2_with fail
    go_ret
    exact ⟨rfl, rfl⟩
theorem putInts_nil (h : w.cell? ⟨p, 2, none⟩ = some (.slice none 0 0)) : Calls Tryz.prog 78 #[.pointer (some ⟨p, 0, none⟩)] w fun e w' => e = .returned (.tuple #[]) ∧ w = w' := by
  go_enter Tryz.func78, Tryz.ntmps78
  go_wp2_with fail
  go_loopw [2] (fun t wr => t = .int .i64 0 ∧ wr = w) (fun _ _ => 0)
  case atStart => exact ⟨rfl, rfl⟩
  case round =>
    obtain ⟨rfl, rfl⟩ := hrel
    go_wp2_with fail
    go_end0
    exact ⟨rfl, rfl⟩
theorem growInts_nil (h : w.cell? ⟨p, 2, none⟩ = some (.slice none 0 0)) : Calls Tryz.prog 90 #[.pointer (some ⟨p, 0, none⟩)] w fun e w' => e = .returned (.slice none 0 0) ∧ w = w' := by
  go_enter Tryz.func90, Tryz.ntmps90
  go_wp2_with fail
  go_loopw [3, 4] (fun t3 t4 wr => t3 = .slice none 0 0 ∧ t4 = .int .i64 0 ∧ wr = w) (fun _ _ _ => 0)
  case atStart => exact ⟨rfl, rfl, rfl⟩
  case round =>
    obtain ⟨rfl, rfl, rfl⟩ := hrel
    go_wp2_with fail
    go_ret
    exact ⟨rfl, rfl⟩
omit p in
theorem markedInts_nil : Calls Tryz.prog 105 #[.slice none 0 0] w fun e w' => e = .returned (.bool true) ∧ w = w' := by
  go_enter Tryz.func105, Tryz.ntmps105
  go_wp2_with fail
  go_loopw [3] (fun t wr => t = .int .i64 0 ∧ wr = w) (fun _ _ => 0)
  case atStart => exact ⟨rfl, rfl⟩
  case round =>
    obtain ⟨rfl, rfl⟩ := hrel
    go_wp2_with fail
    go_ret
    exact ⟨rfl, rfl⟩
theorem stillNums_nil (h : w.cell? ⟨p, 4, none⟩ = some (.slice none 0 0)) : Calls Tryz.prog 61 #[.pointer (some ⟨p, 0, none⟩)] w fun e w' => e = .returned (.bool true) ∧ w = w' := by
  go_enter Tryz.func61, Tryz.ntmps61
  go_wp2_with fail
  go_loopw [3] (fun t wr => t = .int .i64 0 ∧ wr = w) (fun _ _ => 0)
  case atStart => exact ⟨rfl, rfl⟩
  case round =>
    obtain ⟨rfl, rfl⟩ := hrel
    go_wp2_with fail
    go_ret
    exact ⟨rfl, rfl⟩
theorem putNums_nil (h : w.cell? ⟨p, 4, none⟩ = some (.slice none 0 0)) : Calls Tryz.prog 79 #[.pointer (some ⟨p, 0, none⟩)] w fun e w' => e = .returned (.tuple #[]) ∧ w = w' := by
  go_enter Tryz.func79, Tryz.ntmps79
  go_wp2_with fail
  go_loopw [2] (fun t wr => t = .int .i64 0 ∧ wr = w) (fun _ _ => 0)
  case atStart => exact ⟨rfl, rfl⟩
  case round =>
    obtain ⟨rfl, rfl⟩ := hrel
    go_wp2_with fail
    go_end0
    exact ⟨rfl, rfl⟩
theorem growNums_nil (h : w.cell? ⟨p, 4, none⟩ = some (.slice none 0 0)) : Calls Tryz.prog 91 #[.pointer (some ⟨p, 0, none⟩)] w fun e w' => e = .returned (.slice none 0 0) ∧ w = w' := by
  go_enter Tryz.func91, Tryz.ntmps91
  go_wp2_with fail
  go_loopw [3, 4] (fun t3 t4 wr => t3 = .slice none 0 0 ∧ t4 = .int .i64 0 ∧ wr = w) (fun _ _ _ => 0)
  case atStart => exact ⟨rfl, rfl, rfl⟩
  case round =>
    obtain ⟨rfl, rfl, rfl⟩ := hrel
    go_wp2_with fail
    go_ret
    exact ⟨rfl, rfl⟩
omit p in
theorem markedNums_nil : Calls Tryz.prog 106 #[.slice none 0 0] w fun e w' => e = .returned (.bool true) ∧ w = w' := by
  go_enter Tryz.func106, Tryz.ntmps106
  go_wp2_with fail
  go_loopw [3] (fun t wr => t = .int .i64 0 ∧ wr = w) (fun _ _ => 0)
  case atStart => exact ⟨rfl, rfl⟩
  case round =>
    obtain ⟨rfl, rfl⟩ := hrel
    go_wp2_with fail
    go_ret
    exact ⟨rfl, rfl⟩
theorem stillSpans_nil (h : w.cell? ⟨p, 6, none⟩ = some (.slice none 0 0)) : Calls Tryz.prog 62 #[.pointer (some ⟨p, 0, none⟩)] w fun e w' => e = .returned (.bool true) ∧ w = w' := by
  go_enter Tryz.func62, Tryz.ntmps62
  go_wp2_with fail
  go_loopw [3] (fun t wr => t = .int .i64 0 ∧ wr = w) (fun _ _ => 0)
  case atStart => exact ⟨rfl, rfl⟩
  case round =>
    obtain ⟨rfl, rfl⟩ := hrel
    go_wp2_with fail
    go_ret
    exact ⟨rfl, rfl⟩
theorem putSpans_nil (h : w.cell? ⟨p, 6, none⟩ = some (.slice none 0 0)) : Calls Tryz.prog 80 #[.pointer (some ⟨p, 0, none⟩)] w fun e w' => e = .returned (.tuple #[]) ∧ w = w' := by
  go_enter Tryz.func80, Tryz.ntmps80
  go_wp2_with fail
  go_loopw [2] (fun t wr => t = .int .i64 0 ∧ wr = w) (fun _ _ => 0)
  case atStart => exact ⟨rfl, rfl⟩
  case round =>
    obtain ⟨rfl, rfl⟩ := hrel
    go_wp2_with fail
    go_end0
    exact ⟨rfl, rfl⟩
theorem growSpans_nil (h : w.cell? ⟨p, 6, none⟩ = some (.slice none 0 0)) : Calls Tryz.prog 92 #[.pointer (some ⟨p, 0, none⟩)] w fun e w' => e = .returned (.slice none 0 0) ∧ w = w' := by
  go_enter Tryz.func92, Tryz.ntmps92
  go_wp2_with fail
  go_loopw [3, 4] (fun t3 t4 wr => t3 = .slice none 0 0 ∧ t4 = .int .i64 0 ∧ wr = w) (fun _ _ _ => 0)
  case atStart => exact ⟨rfl, rfl, rfl⟩
  case round =>
    obtain ⟨rfl, rfl, rfl⟩ := hrel
    go_wp2_with fail
    go_ret
    exact ⟨rfl, rfl⟩
omit p in
theorem markedSpans_nil : Calls Tryz.prog 107 #[.slice none 0 0] w fun e w' => e = .returned (.bool true) ∧ w = w' := by
  go_enter Tryz.func107, Tryz.ntmps107
  go_wp2_with fail
  go_loopw [3] (fun t wr => t = .int .i64 0 ∧ wr = w) (fun _ _ => 0)
  case atStart => exact ⟨rfl, rfl⟩
  case round =>
    obtain ⟨rfl, rfl⟩ := hrel
    go_wp2_with fail
    go_ret
    exact ⟨rfl, rfl⟩
theorem stillLocks_nil (h : w.cell? ⟨p, 8, none⟩ = some (.slice none 0 0)) : Calls Tryz.prog 63 #[.pointer (some ⟨p, 0, none⟩)] w fun e w' => e = .returned (.bool true) ∧ w = w' := by
  go_enter Tryz.func63, Tryz.ntmps63
  go_wp2_with fail
  go_loopw [3] (fun t wr => t = .int .i64 0 ∧ wr = w) (fun _ _ => 0)
  case atStart => exact ⟨rfl, rfl⟩
  case round =>
    obtain ⟨rfl, rfl⟩ := hrel
    go_wp2_with fail
    go_ret
    exact ⟨rfl, rfl⟩
theorem putLocks_nil (h : w.cell? ⟨p, 8, none⟩ = some (.slice none 0 0)) : Calls Tryz.prog 81 #[.pointer (some ⟨p, 0, none⟩)] w fun e w' => e = .returned (.tuple #[]) ∧ w = w' := by
  go_enter Tryz.func81, Tryz.ntmps81
  go_wp2_with fail
  go_loopw [2] (fun t wr => t = .int .i64 0 ∧ wr = w) (fun _ _ => 0)
  case atStart => exact ⟨rfl, rfl⟩
  case round =>
    obtain ⟨rfl, rfl⟩ := hrel
    go_wp2_with fail
    go_end0
    exact ⟨rfl, rfl⟩
theorem growLocks_nil (h : w.cell? ⟨p, 8, none⟩ = some (.slice none 0 0)) : Calls Tryz.prog 93 #[.pointer (some ⟨p, 0, none⟩)] w fun e w' => e = .returned (.slice none 0 0) ∧ w = w' := by
  go_enter Tryz.func93, Tryz.ntmps93
  go_wp2_with fail
  go_loopw [3, 4] (fun t3 t4 wr => t3 = .slice none 0 0 ∧ t4 = .int .i64 0 ∧ wr = w) (fun _ _ _ => 0)
  case atStart => exact ⟨rfl, rfl, rfl⟩
  case round =>
    obtain ⟨rfl, rfl, rfl⟩ := hrel
    go_wp2_with fail
    go_ret
    exact ⟨rfl, rfl⟩
omit p in
theorem markedLocks_nil : Calls Tryz.prog 108 #[.slice none 0 0] w fun e w' => e = .returned (.bool true) ∧ w = w' := by
  go_enter Tryz.func108, Tryz.ntmps108
  go_wp2_with fail
  go_loopw [3] (fun t wr => t = .int .i64 0 ∧ wr = w) (fun _ _ => 0)
  case atStart => exact ⟨rfl, rfl⟩
  case round =>
    obtain ⟨rfl, rfl⟩ := hrel
    go_wp2_with fail
    go_ret
    exact ⟨rfl, rfl⟩
theorem stillImages_nil (h : w.cell? ⟨p, 10, none⟩ = some (.slice none 0 0)) : Calls Tryz.prog 64 #[.pointer (some ⟨p, 0, none⟩)] w fun e w' => e = .returned (.bool true) ∧ w = w' := by
  go_enter Tryz.func64, Tryz.ntmps64
  go_wp2_with fail
  go_loopw [3] (fun t wr => t = .int .i64 0 ∧ wr = w) (fun _ _ => 0)
  case atStart => exact ⟨rfl, rfl⟩
  case round =>
    obtain ⟨rfl, rfl⟩ := hrel
    go_wp2_with fail
    go_ret
    exact ⟨rfl, rfl⟩
theorem putImages_nil (h : w.cell? ⟨p, 10, none⟩ = some (.slice none 0 0)) : Calls Tryz.prog 82 #[.pointer (some ⟨p, 0, none⟩)] w fun e w' => e = .returned (.tuple #[]) ∧ w = w' := by
  go_enter Tryz.func82, Tryz.ntmps82
  go_wp2_with fail
  go_loopw [2] (fun t wr => t = .int .i64 0 ∧ wr = w) (fun _ _ => 0)
  case atStart => exact ⟨rfl, rfl⟩
  case round =>
    obtain ⟨rfl, rfl⟩ := hrel
    go_wp2_with fail
    go_end0
    exact ⟨rfl, rfl⟩
theorem growImages_nil (h : w.cell? ⟨p, 10, none⟩ = some (.slice none 0 0)) : Calls Tryz.prog 94 #[.pointer (some ⟨p, 0, none⟩)] w fun e w' => e = .returned (.slice none 0 0) ∧ w = w' := by
  go_enter Tryz.func94, Tryz.ntmps94
  go_wp2_with fail
  go_loopw [3, 4] (fun t3 t4 wr => t3 = .slice none 0 0 ∧ t4 = .int .i64 0 ∧ wr = w) (fun _ _ _ => 0)
  case atStart => exact ⟨rfl, rfl, rfl⟩
  case round =>
    obtain ⟨rfl, rfl, rfl⟩ := hrel
    go_wp2_with fail
    go_ret
    exact ⟨rfl, rfl⟩
omit p in
theorem markedImages_nil : Calls Tryz.prog 109 #[.slice none 0 0] w fun e w' => e = .returned (.bool true) ∧ w = w' := by
  go_enter Tryz.func109, Tryz.ntmps109
  go_wp2_with fail
  go_loopw [3] (fun t wr => t = .int .i64 0 ∧ wr = w) (fun _ _ => 0)
  case atStart => exact ⟨rfl, rfl⟩
  case round =>
    obtain ⟨rfl, rfl⟩ := hrel
    go_wp2_with fail
    go_ret
    exact ⟨rfl, rfl⟩
theorem stillRecords_nil (h : w.cell? ⟨p, 12, none⟩ = some (.slice none 0 0)) : Calls Tryz.prog 65 #[.pointer (some ⟨p, 0, none⟩)] w fun e w' => e = .returned (.bool true) ∧ w = w' := by
  go_enter Tryz.func65, Tryz.ntmps65
  go_wp2_with fail
  go_loopw [3] (fun t wr => t = .int .i64 0 ∧ wr = w) (fun _ _ => 0)
  case atStart => exact ⟨rfl, rfl⟩
  case round =>
    obtain ⟨rfl, rfl⟩ := hrel
    go_wp2_with fail
    go_ret
    exact ⟨rfl, rfl⟩
theorem putRecords_nil (h : w.cell? ⟨p, 12, none⟩ = some (.slice none 0 0)) : Calls Tryz.prog 74 #[.pointer (some ⟨p, 0, none⟩)] w fun e w' => e = .returned (.tuple #[]) ∧ w = w' := by
  go_enter Tryz.func74, Tryz.ntmps74
  go_wp2_with fail
  go_loopw [2] (fun t wr => t = .int .i64 0 ∧ wr = w) (fun _ _ => 0)
  case atStart => exact ⟨rfl, rfl⟩
  case round =>
    obtain ⟨rfl, rfl⟩ := hrel
    go_wp2_with fail
    go_end0
    exact ⟨rfl, rfl⟩
theorem growRecords_nil (h : w.cell? ⟨p, 12, none⟩ = some (.slice none 0 0)) : Calls Tryz.prog 95 #[.pointer (some ⟨p, 0, none⟩)] w fun e w' => e = .returned (.slice none 0 0) ∧ w = w' := by
  go_enter Tryz.func95, Tryz.ntmps95
  go_wp2_with fail
  go_loopw [3, 4] (fun t3 t4 wr => t3 = .slice none 0 0 ∧ t4 = .int .i64 0 ∧ wr = w) (fun _ _ _ => 0)
  case atStart => exact ⟨rfl, rfl, rfl⟩
  case round =>
    obtain ⟨rfl, rfl, rfl⟩ := hrel
    go_wp2_with fail
    go_ret
    exact ⟨rfl, rfl⟩
omit p in
theorem markedRecords_nil : Calls Tryz.prog 110 #[.slice none 0 0] w fun e w' => e = .returned (.bool true) ∧ w = w' := by
  go_enter Tryz.func110, Tryz.ntmps110
  go_wp2_with fail
  go_loopw [3] (fun t wr => t = .int .i64 0 ∧ wr = w) (fun _ _ => 0)
  case atStart => exact ⟨rfl, rfl⟩
  case round =>
    obtain ⟨rfl, rfl⟩ := hrel
    go_wp2_with fail
    go_ret
    exact ⟨rfl, rfl⟩
theorem stillPackets_nil (h : w.cell? ⟨p, 14, none⟩ = some (.slice none 0 0)) : Calls Tryz.prog 66 #[.pointer (some ⟨p, 0, none⟩)] w fun e w' => e = .returned (.bool true) ∧ w = w' := by
  go_enter Tryz.func66, Tryz.ntmps66
  go_wp2_with fail
  go_loopw [3] (fun t wr => t = .int .i64 0 ∧ wr = w) (fun _ _ => 0)
  case atStart => exact ⟨rfl, rfl⟩
  case round =>
    obtain ⟨rfl, rfl⟩ := hrel
    go_wp2_with fail
    go_ret
    exact ⟨rfl, rfl⟩
theorem putPackets_nil (h : w.cell? ⟨p, 14, none⟩ = some (.slice none 0 0)) : Calls Tryz.prog 83 #[.pointer (some ⟨p, 0, none⟩)] w fun e w' => e = .returned (.tuple #[]) ∧ w = w' := by
  go_enter Tryz.func83, Tryz.ntmps83
  go_wp2_with fail
  go_loopw [2] (fun t wr => t = .int .i64 0 ∧ wr = w) (fun _ _ => 0)
  case atStart => exact ⟨rfl, rfl⟩
  case round =>
    obtain ⟨rfl, rfl⟩ := hrel
    go_wp2_with fail
    go_end0
    exact ⟨rfl, rfl⟩
theorem growPackets_nil (h : w.cell? ⟨p, 14, none⟩ = some (.slice none 0 0)) : Calls Tryz.prog 96 #[.pointer (some ⟨p, 0, none⟩)] w fun e w' => e = .returned (.slice none 0 0) ∧ w = w' := by
  go_enter Tryz.func96, Tryz.ntmps96
  go_wp2_with fail
  go_loopw [3, 4] (fun t3 t4 wr => t3 = .slice none 0 0 ∧ t4 = .int .i64 0 ∧ wr = w) (fun _ _ _ => 0)
  case atStart => exact ⟨rfl, rfl, rfl⟩
  case round =>
    obtain ⟨rfl, rfl, rfl⟩ := hrel
    go_wp2_with fail
    go_ret
    exact ⟨rfl, rfl⟩
omit p in
theorem markedPackets_nil : Calls Tryz.prog 111 #[.slice none 0 0] w fun e w' => e = .returned (.bool true) ∧ w = w' := by
  go_enter Tryz.func111, Tryz.ntmps111
  go_wp2_with fail
  go_loopw [3] (fun t wr => t = .int .i64 0 ∧ wr = w) (fun _ _ => 0)
  case atStart => exact ⟨rfl, rfl⟩
  case round =>
    obtain ⟨rfl, rfl⟩ := hrel
    go_wp2_with fail
    go_ret
    exact ⟨rfl, rfl⟩
theorem stillFrames_nil (h : w.cell? ⟨p, 16, none⟩ = some (.slice none 0 0)) : Calls Tryz.prog 67 #[.pointer (some ⟨p, 0, none⟩)] w fun e w' => e = .returned (.bool true) ∧ w = w' := by
  go_enter Tryz.func67, Tryz.ntmps67
  go_wp2_with fail
  go_loopw [3] (fun t wr => t = .int .i64 0 ∧ wr = w) (fun _ _ => 0)
  case atStart => exact ⟨rfl, rfl⟩
  case round =>
    obtain ⟨rfl, rfl⟩ := hrel
    go_wp2_with fail
    go_ret
    exact ⟨rfl, rfl⟩
theorem putFrames_nil (h : w.cell? ⟨p, 16, none⟩ = some (.slice none 0 0)) : Calls Tryz.prog 84 #[.pointer (some ⟨p, 0, none⟩)] w fun e w' => e = .returned (.tuple #[]) ∧ w = w' := by
  go_enter Tryz.func84, Tryz.ntmps84
  go_wp2_with fail
  go_loopw [2] (fun t wr => t = .int .i64 0 ∧ wr = w) (fun _ _ => 0)
  case atStart => exact ⟨rfl, rfl⟩
  case round =>
    obtain ⟨rfl, rfl⟩ := hrel
    go_wp2_with fail
    go_end0
    exact ⟨rfl, rfl⟩
theorem growFrames_nil (h : w.cell? ⟨p, 16, none⟩ = some (.slice none 0 0)) : Calls Tryz.prog 97 #[.pointer (some ⟨p, 0, none⟩)] w fun e w' => e = .returned (.slice none 0 0) ∧ w = w' := by
  go_enter Tryz.func97, Tryz.ntmps97
  go_wp2_with fail
  go_loopw [3, 4] (fun t3 t4 wr => t3 = .slice none 0 0 ∧ t4 = .int .i64 0 ∧ wr = w) (fun _ _ _ => 0)
  case atStart => exact ⟨rfl, rfl, rfl⟩
  case round =>
    obtain ⟨rfl, rfl, rfl⟩ := hrel
    go_wp2_with fail
    go_ret
    exact ⟨rfl, rfl⟩
omit p in
theorem markedFrames_nil : Calls Tryz.prog 112 #[.slice none 0 0] w fun e w' => e = .returned (.bool true) ∧ w = w' := by
  go_enter Tryz.func112, Tryz.ntmps112
  go_wp2_with fail
  go_loopw [3] (fun t wr => t = .int .i64 0 ∧ wr = w) (fun _ _ => 0)
  case atStart => exact ⟨rfl, rfl⟩
  case round =>
    obtain ⟨rfl, rfl⟩ := hrel
    go_wp2_with fail
    go_ret
    exact ⟨rfl, rfl⟩
theorem stillWaits_nil (h : w.cell? ⟨p, 18, none⟩ = some (.slice none 0 0)) : Calls Tryz.prog 68 #[.pointer (some ⟨p, 0, none⟩)] w fun e w' => e = .returned (.bool true) ∧ w = w' := by
  go_enter Tryz.func68, Tryz.ntmps68
  go_wp2_with fail
  go_loopw [3] (fun t wr => t = .int .i64 0 ∧ wr = w) (fun _ _ => 0)
  case atStart => exact ⟨rfl, rfl⟩
  case round =>
    obtain ⟨rfl, rfl⟩ := hrel
    go_wp2_with fail
    go_ret
    exact ⟨rfl, rfl⟩
theorem putWaits_nil (h : w.cell? ⟨p, 18, none⟩ = some (.slice none 0 0)) : Calls Tryz.prog 85 #[.pointer (some ⟨p, 0, none⟩)] w fun e w' => e = .returned (.tuple #[]) ∧ w = w' := by
  go_enter Tryz.func85, Tryz.ntmps85
  go_wp2_with fail
  go_loopw [2] (fun t wr => t = .int .i64 0 ∧ wr = w) (fun _ _ => 0)
  case atStart => exact ⟨rfl, rfl⟩
  case round =>
    obtain ⟨rfl, rfl⟩ := hrel
    go_wp2_with fail
    go_end0
    exact ⟨rfl, rfl⟩
theorem growWaits_nil (h : w.cell? ⟨p, 18, none⟩ = some (.slice none 0 0)) : Calls Tryz.prog 98 #[.pointer (some ⟨p, 0, none⟩)] w fun e w' => e = .returned (.slice none 0 0) ∧ w = w' := by
  go_enter Tryz.func98, Tryz.ntmps98
  go_wp2_with fail
  go_loopw [3, 4] (fun t3 t4 wr => t3 = .slice none 0 0 ∧ t4 = .int .i64 0 ∧ wr = w) (fun _ _ _ => 0)
  case atStart => exact ⟨rfl, rfl, rfl⟩
  case round =>
    obtain ⟨rfl, rfl, rfl⟩ := hrel
    go_wp2_with fail
    go_ret
    exact ⟨rfl, rfl⟩
omit p in
theorem markedWaits_nil : Calls Tryz.prog 113 #[.slice none 0 0] w fun e w' => e = .returned (.bool true) ∧ w = w' := by
  go_enter Tryz.func113, Tryz.ntmps113
  go_wp2_with fail
  go_loopw [3] (fun t wr => t = .int .i64 0 ∧ wr = w) (fun _ _ => 0)
  case atStart => exact ⟨rfl, rfl⟩
  case round =>
    obtain ⟨rfl, rfl⟩ := hrel
    go_wp2_with fail
    go_ret
    exact ⟨rfl, rfl⟩
theorem stillRevokes_nil (h : w.cell? ⟨p, 20, none⟩ = some (.slice none 0 0)) : Calls Tryz.prog 69 #[.pointer (some ⟨p, 0, none⟩)] w fun e w' => e = .returned (.bool true) ∧ w = w' := by
  go_enter Tryz.func69, Tryz.ntmps69
  go_wp2_with fail
  go_loopw [3] (fun t wr => t = .int .i64 0 ∧ wr = w) (fun _ _ => 0)
  case atStart => exact ⟨rfl, rfl⟩
  case round =>
    obtain ⟨rfl, rfl⟩ := hrel
    go_wp2_with fail
    go_ret
    exact ⟨rfl, rfl⟩
theorem putRevokes_nil (h : w.cell? ⟨p, 20, none⟩ = some (.slice none 0 0)) : Calls Tryz.prog 86 #[.pointer (some ⟨p, 0, none⟩)] w fun e w' => e = .returned (.tuple #[]) ∧ w = w' := by
  go_enter Tryz.func86, Tryz.ntmps86
  go_wp2_with fail
  go_loopw [2] (fun t wr => t = .int .i64 0 ∧ wr = w) (fun _ _ => 0)
  case atStart => exact ⟨rfl, rfl⟩
  case round =>
    obtain ⟨rfl, rfl⟩ := hrel
    go_wp2_with fail
    go_end0
    exact ⟨rfl, rfl⟩
theorem growRevokes_nil (h : w.cell? ⟨p, 20, none⟩ = some (.slice none 0 0)) : Calls Tryz.prog 99 #[.pointer (some ⟨p, 0, none⟩)] w fun e w' => e = .returned (.slice none 0 0) ∧ w = w' := by
  go_enter Tryz.func99, Tryz.ntmps99
  go_wp2_with fail
  go_loopw [3, 4] (fun t3 t4 wr => t3 = .slice none 0 0 ∧ t4 = .int .i64 0 ∧ wr = w) (fun _ _ _ => 0)
  case atStart => exact ⟨rfl, rfl, rfl⟩
  case round =>
    obtain ⟨rfl, rfl, rfl⟩ := hrel
    go_wp2_with fail
    go_ret
    exact ⟨rfl, rfl⟩
omit p in
theorem markedRevokes_nil : Calls Tryz.prog 114 #[.slice none 0 0] w fun e w' => e = .returned (.bool true) ∧ w = w' := by
  go_enter Tryz.func114, Tryz.ntmps114
  go_wp2_with fail
  go_loopw [3] (fun t wr => t = .int .i64 0 ∧ wr = w) (fun _ _ => 0)
  case atStart => exact ⟨rfl, rfl⟩
  case round =>
    obtain ⟨rfl, rfl⟩ := hrel
    go_wp2_with fail
    go_ret
    exact ⟨rfl, rfl⟩
theorem stillEntries_nil (h : w.cell? ⟨p, 22, none⟩ = some (.slice none 0 0)) : Calls Tryz.prog 70 #[.pointer (some ⟨p, 0, none⟩)] w fun e w' => e = .returned (.bool true) ∧ w = w' := by
  go_enter Tryz.func70, Tryz.ntmps70
  go_wp2_with fail
  go_loopw [3] (fun t wr => t = .int .i64 0 ∧ wr = w) (fun _ _ => 0)
  case atStart => exact ⟨rfl, rfl⟩
  case round =>
    obtain ⟨rfl, rfl⟩ := hrel
    go_wp2_with fail
    go_ret
    exact ⟨rfl, rfl⟩
theorem putEntries_nil (h : w.cell? ⟨p, 22, none⟩ = some (.slice none 0 0)) : Calls Tryz.prog 87 #[.pointer (some ⟨p, 0, none⟩)] w fun e w' => e = .returned (.tuple #[]) ∧ w = w' := by
  go_enter Tryz.func87, Tryz.ntmps87
  go_wp2_with fail
  go_loopw [2] (fun t wr => t = .int .i64 0 ∧ wr = w) (fun _ _ => 0)
  case atStart => exact ⟨rfl, rfl⟩
  case round =>
    obtain ⟨rfl, rfl⟩ := hrel
    go_wp2_with fail
    go_end0
    exact ⟨rfl, rfl⟩
theorem growEntries_nil (h : w.cell? ⟨p, 22, none⟩ = some (.slice none 0 0)) : Calls Tryz.prog 100 #[.pointer (some ⟨p, 0, none⟩)] w fun e w' => e = .returned (.slice none 0 0) ∧ w = w' := by
  go_enter Tryz.func100, Tryz.ntmps100
  go_wp2_with fail
  go_loopw [3, 4] (fun t3 t4 wr => t3 = .slice none 0 0 ∧ t4 = .int .i64 0 ∧ wr = w) (fun _ _ _ => 0)
  case atStart => exact ⟨rfl, rfl, rfl⟩
  case round =>
    obtain ⟨rfl, rfl, rfl⟩ := hrel
    go_wp2_with fail
    go_ret
    exact ⟨rfl, rfl⟩
omit p in
theorem markedEntries_nil : Calls Tryz.prog 115 #[.slice none 0 0] w fun e w' => e = .returned (.bool true) ∧ w = w' := by
  go_enter Tryz.func115, Tryz.ntmps115
  go_wp2_with fail
  go_loopw [3] (fun t wr => t = .int .i64 0 ∧ wr = w) (fun _ _ => 0)
  case atStart => exact ⟨rfl, rfl⟩
  case round =>
    obtain ⟨rfl, rfl⟩ := hrel
    go_wp2_with fail
    go_ret
    exact ⟨rfl, rfl⟩
theorem stillParts_nil (h : w.cell? ⟨p, 24, none⟩ = some (.slice none 0 0)) : Calls Tryz.prog 71 #[.pointer (some ⟨p, 0, none⟩)] w fun e w' => e = .returned (.bool true) ∧ w = w' := by
  go_enter Tryz.func71, Tryz.ntmps71
  go_wp2_with fail
  go_loopw [3] (fun t wr => t = .int .i64 0 ∧ wr = w) (fun _ _ => 0)
  case atStart => exact ⟨rfl, rfl⟩
  case round =>
    obtain ⟨rfl, rfl⟩ := hrel
    go_wp2_with fail
    go_ret
    exact ⟨rfl, rfl⟩
theorem putParts_nil (h : w.cell? ⟨p, 24, none⟩ = some (.slice none 0 0)) : Calls Tryz.prog 88 #[.pointer (some ⟨p, 0, none⟩)] w fun e w' => e = .returned (.tuple #[]) ∧ w = w' := by
  go_enter Tryz.func88, Tryz.ntmps88
  go_wp2_with fail
  go_loopw [2] (fun t wr => t = .int .i64 0 ∧ wr = w) (fun _ _ => 0)
  case atStart => exact ⟨rfl, rfl⟩
  case round =>
    obtain ⟨rfl, rfl⟩ := hrel
    go_wp2_with fail
    go_end0
    exact ⟨rfl, rfl⟩
theorem growParts_nil (h : w.cell? ⟨p, 24, none⟩ = some (.slice none 0 0)) : Calls Tryz.prog 101 #[.pointer (some ⟨p, 0, none⟩)] w fun e w' => e = .returned (.slice none 0 0) ∧ w = w' := by
  go_enter Tryz.func101, Tryz.ntmps101
  go_wp2_with fail
  go_loopw [3, 4] (fun t3 t4 wr => t3 = .slice none 0 0 ∧ t4 = .int .i64 0 ∧ wr = w) (fun _ _ _ => 0)
  case atStart => exact ⟨rfl, rfl, rfl⟩
  case round =>
    obtain ⟨rfl, rfl, rfl⟩ := hrel
    go_wp2_with fail
    go_ret
    exact ⟨rfl, rfl⟩
omit p in
theorem markedParts_nil : Calls Tryz.prog 116 #[.slice none 0 0] w fun e w' => e = .returned (.bool true) ∧ w = w' := by
  go_enter Tryz.func116, Tryz.ntmps116
  go_wp2_with fail
  go_loopw [3] (fun t wr => t = .int .i64 0 ∧ wr = w) (fun _ _ => 0)
  case atStart => exact ⟨rfl, rfl⟩
  case round =>
    obtain ⟨rfl, rfl⟩ := hrel
    go_wp2_with fail
    go_ret
    exact ⟨rfl, rfl⟩
theorem stillMsgs_nil (h : w.cell? ⟨p, 26, none⟩ = some (.slice none 0 0)) : Calls Tryz.prog 72 #[.pointer (some ⟨p, 0, none⟩)] w fun e w' => e = .returned (.bool true) ∧ w = w' := by
  go_enter Tryz.func72, Tryz.ntmps72
  go_wp2_with fail
  go_loopw [3] (fun t wr => t = .int .i64 0 ∧ wr = w) (fun _ _ => 0)
  case atStart => exact ⟨rfl, rfl⟩
  case round =>
    obtain ⟨rfl, rfl⟩ := hrel
    go_wp2_with fail
    go_ret
    exact ⟨rfl, rfl⟩
theorem putMsgs_nil (h : w.cell? ⟨p, 26, none⟩ = some (.slice none 0 0)) : Calls Tryz.prog 75 #[.pointer (some ⟨p, 0, none⟩)] w fun e w' => e = .returned (.tuple #[]) ∧ w = w' := by
  go_enter Tryz.func75, Tryz.ntmps75
  go_wp2_with fail
  go_loopw [2] (fun t wr => t = .int .i64 0 ∧ wr = w) (fun _ _ => 0)
  case atStart => exact ⟨rfl, rfl⟩
  case round =>
    obtain ⟨rfl, rfl⟩ := hrel
    go_wp2_with fail
    go_end0
    exact ⟨rfl, rfl⟩
theorem growMsgs_nil (h : w.cell? ⟨p, 26, none⟩ = some (.slice none 0 0)) : Calls Tryz.prog 102 #[.pointer (some ⟨p, 0, none⟩)] w fun e w' => e = .returned (.slice none 0 0) ∧ w = w' := by
  go_enter Tryz.func102, Tryz.ntmps102
  go_wp2_with fail
  go_loopw [3, 4] (fun t3 t4 wr => t3 = .slice none 0 0 ∧ t4 = .int .i64 0 ∧ wr = w) (fun _ _ _ => 0)
  case atStart => exact ⟨rfl, rfl, rfl⟩
  case round =>
    obtain ⟨rfl, rfl, rfl⟩ := hrel
    go_wp2_with fail
    go_ret
    exact ⟨rfl, rfl⟩
omit p in
theorem markedMsgs_nil : Calls Tryz.prog 117 #[.slice none 0 0] w fun e w' => e = .returned (.bool true) ∧ w = w' := by
  go_enter Tryz.func117, Tryz.ntmps117
  go_wp2_with fail
  go_loopw [3] (fun t wr => t = .int .i64 0 ∧ wr = w) (fun _ _ => 0)
  case atStart => exact ⟨rfl, rfl⟩
  case round =>
    obtain ⟨rfl, rfl⟩ := hrel
    go_wp2_with fail
    go_ret
    exact ⟨rfl, rfl⟩
theorem stillSteps_nil (h : w.cell? ⟨p, 28, none⟩ = some (.slice none 0 0)) : Calls Tryz.prog 73 #[.pointer (some ⟨p, 0, none⟩)] w fun e w' => e = .returned (.bool true) ∧ w = w' := by
  go_enter Tryz.func73, Tryz.ntmps73
  go_wp2_with fail
  go_loopw [3] (fun t wr => t = .int .i64 0 ∧ wr = w) (fun _ _ => 0)
  case atStart => exact ⟨rfl, rfl⟩
  case round =>
    obtain ⟨rfl, rfl⟩ := hrel
    go_wp2_with fail
    go_ret
    exact ⟨rfl, rfl⟩
theorem putSteps_nil (h : w.cell? ⟨p, 28, none⟩ = some (.slice none 0 0)) : Calls Tryz.prog 76 #[.pointer (some ⟨p, 0, none⟩)] w fun e w' => e = .returned (.tuple #[]) ∧ w = w' := by
  go_enter Tryz.func76, Tryz.ntmps76
  go_wp2_with fail
  go_loopw [2] (fun t wr => t = .int .i64 0 ∧ wr = w) (fun _ _ => 0)
  case atStart => exact ⟨rfl, rfl⟩
  case round =>
    obtain ⟨rfl, rfl⟩ := hrel
    go_wp2_with fail
    go_end0
    exact ⟨rfl, rfl⟩
theorem growSteps_nil (h : w.cell? ⟨p, 28, none⟩ = some (.slice none 0 0)) : Calls Tryz.prog 103 #[.pointer (some ⟨p, 0, none⟩)] w fun e w' => e = .returned (.slice none 0 0) ∧ w = w' := by
  go_enter Tryz.func103, Tryz.ntmps103
  go_wp2_with fail
  go_loopw [3, 4] (fun t3 t4 wr => t3 = .slice none 0 0 ∧ t4 = .int .i64 0 ∧ wr = w) (fun _ _ _ => 0)
  case atStart => exact ⟨rfl, rfl, rfl⟩
  case round =>
    obtain ⟨rfl, rfl, rfl⟩ := hrel
    go_wp2_with fail
    go_ret
    exact ⟨rfl, rfl⟩
omit p in
theorem markedSteps_nil : Calls Tryz.prog 118 #[.slice none 0 0] w fun e w' => e = .returned (.bool true) ∧ w = w' := by
  go_enter Tryz.func118, Tryz.ntmps118
  go_wp2_with fail
  go_loopw [3] (fun t wr => t = .int .i64 0 ∧ wr = w) (fun _ _ => 0)
  case atStart => exact ⟨rfl, rfl⟩
  case round =>
    obtain ⟨rfl, rfl⟩ := hrel
    go_wp2_with fail
    go_ret
    exact ⟨rfl, rfl⟩
end
end Go.Proofs.YtkhieofknglknaaGreatDoor

/- The book: images alike, copied, lent (printed by gen/mkbook.py). -/
namespace Go.Proofs.YtkhieofknglknaaGreatDoor
open Go.RowKit

theorem eql_im (b v : Int) (d : ByteArray) (w : World) : (binOp .eql 72 (.agg #[.int .i64 b, .int .u64 v, .string d]) (.agg #[.int .i64 b, .int .u64 v, .string d])).run Tryz.prog w = .ok (.bool true) w := by
  have u3 := Tryz.underlying3
  have hS : Tryz.prog.underlying 72 = some (.struct (Tryz.prog.fieldsOf 72)) := by kernel_rfl
  have hp : Tryz.prog.stoodInHeld 72 = false := by kernel_rfl
  rw [run_eql_struct, show (10000 : Nat) = 9999 + 1 from rfl, run_equalIn_agg w 9999 72 _ _ hS hp]
  simp only [Program.fieldsOf, Tryz.underlying72]
  go_simp
set_option maxRecDepth 100000 in
set_option maxHeartbeats 1000000 in
theorem sameimgs_yes (w : World) (A B : Option Addr) (ca cb : Nat) (l : List Im) (ha : Reads w 3 A l.length (imcells l)) (hb : Reads w 3 B l.length (imcells l)) (hl : l.length ≤ 1000000000) :
    Calls Tryz.prog 9 #[.slice A l.length ca, .slice B l.length cb] w fun e w' => e = .returned (.bool true) ∧ ∃ n, w' = w.drewN n := by
  have HA := Lib.hid ha
  have HB := Lib.hid hb
  clear ha hb
  go_enter Tryz.func9, Tryz.ntmps9
  go_wp2_with fail
  go_loopw [5] (fun t5 wr => ∃ k n : Nat, k ≤ l.length ∧ t5 = .int .i64 k ∧ wr = w.drewN n) (fun t5 _ => l.length - (intOf t5).toNat)
  case atStart => exact ⟨0, 0, by omega, rfl, rfl⟩
  case round =>
    obtain ⟨k, n, hk, rfl, rfl⟩ := hrel
    by_cases hlt : k < l.length
    · have hltI : (k : Int) < (l.length : Int) := by omega
      obtain ⟨y, hy⟩ : ∃ y, l[k]? = some y := ⟨_, List.getElem?_eq_getElem hlt⟩
      obtain ⟨ad, rfl, c0, c1, c2⟩ := HA.out.imrow hy
      obtain ⟨bd, rfl, d0, d1, d2⟩ := HB.out.imrow hy
      have he := eql_im y.block y.ver y.data
      clear hy
      go_upto_region 6 with (fail)
      go_quiet (fail)
      go_wp2_with fail
      exact ⟨⟨k + 1, n + nq, by omega, by go_num, rfl⟩, by simp [intOf]; omega⟩
    · have hltI : ¬ (k : Int) < (l.length : Int) := by omega
      go_wp2_with fail
      go_ret
      exact ⟨rfl, n, rfl⟩
theorem im_one2 (l : List Im) : ∀ u ∈ imcells l, u.oneCell' = true := by
  intro u hu
  simp only [imcells, List.mem_flatMap, Im.cells, List.mem_cons, List.not_mem_nil, or_false] at hu
  obtain ⟨x, _, rfl | rfl | rfl⟩ := hu <;> rfl
set_option maxRecDepth 100000 in
theorem copyimgs_any (o : Nat → Nat) (c0 : Nat) (w : World) (A : Option Addr) (cap : Nat) (l : List Im) (h : Reads w 3 A l.length (imcells l)) (hl : l.length ≤ 1000) :
    Calls Tryz.prog 40 #[.slice A l.length cap] w fun e w' => ∃ A' cap', e = .returned (.slice A' l.length cap') ∧ OwnS (band o w.heap.size w'.heap.size c0) c0 w' 72 3 (.slice A' l.length cap') l.length (imcells l) ∧ Below w.heap.size w w' := by
  obtain ⟨i0, hi, hz0, hz1, hz2⟩ := info_parts info_im
  have HR := Lib.hid h
  clear h
  go_enter Tryz.func40, Tryz.ntmps40
  go_wp2_with (at_builtin; refine wpList_append_S _ rfl (.const (.slice none 0 0)) (.tmp 3) 23 rfl 72 i0 _ 3 32 Tryz.underlying23 hi hz0 hz1 hz2 rfl (by omega) (.slice none 0 0) 0 [] rfl (OwnS.nil o c0 _ _ _) A l.length cap (imcells l) rfl HR.out (im_one2 l) (by unfold maxLen; omega) (by omega) ?_; intro v' w1 hown hst hg hat; rw [Nat.zero_add, List.nil_append] at hown; obtain ⟨A2, cap2, rfl, _, _⟩ := own_form' hown; have HOW := Lib.hid hown; have HBL := Lib.hid ((Below.refl w.heap.size w).grown hg (Nat.le_refl _) (by simp [Value.ownBlock])); clear hown hst hg hat)
  go_ret
  exact ⟨A2, cap2, rfl, HOW.out, HBL.out⟩
set_option maxRecDepth 100000 in
set_option maxHeartbeats 1000000 in
theorem lentimgs_any (o : Nat → Nat) (c0 : Nat) (w : World) (A : Option Addr) (cap : Nat) (l : List Im) (h : Reads w 3 A l.length (imcells l)) (hl : l.length ≤ 1000) :
    Calls Tryz.prog 11 #[.slice A l.length cap] w fun e w' => ∃ A' cap' o', e = .returned (.slice A' l.length cap') ∧ l.length < cap' ∧ OwnS o' c0 w' 72 3 (.slice A' (l.length + 1) cap') (l.length + 1) (imcells (l ++ [⟨-77, 0, ⟨#[]⟩⟩])) ∧ Below w.heap.size w w' ∧ (∀ g, g < w.heap.size → o' g = o g) := by
  obtain ⟨i0, hi, hz0, hz1, hz2⟩ := info_parts info_im
  have HR := Lib.hid h
  clear h
  go_enter Tryz.func11, Tryz.ntmps11
  go_wp2_with (first
    | (at_builtin; refine wpList_append_S _ rfl (.const (.slice none 0 0)) (.tmp 3) 23 rfl 72 i0 _ 3 32 Tryz.underlying23 hi hz0 hz1 hz2 rfl (by omega) (.slice none 0 0) 0 [] rfl (OwnS.nil o c0 _ _ _) A l.length cap (imcells l) rfl HR.out (im_one2 l) (by unfold maxLen; omega) (by omega) ?_; intro v' w1 hown hst hg hat; rw [Nat.zero_add, List.nil_append] at hown; obtain ⟨A2, cap2, rfl, _, _⟩ := own_form' hown; have HOW := Lib.hid hown; have HAT := Lib.hid hat; have HBL := Lib.hid ((Below.refl w.heap.size w).grown hg (Nat.le_refl _) (by simp [Value.ownBlock])); clear hown hst hg hat)
    | (at_builtin; refine wpList_append_S _ rfl (.tmp 4) (.tmp 6) 23 rfl 72 i0 _ 3 32 Tryz.underlying23 hi hz0 hz1 hz2 rfl (by omega) (.slice A2 l.length cap2) l.length (imcells l) rfl (HOW.out.alloc (.cells #[.int .i64 (-77), .int .u64 0, .string ⟨#[]⟩] 72)) _ 1 1 [.int .i64 (-77), .int .u64 0, .string ⟨#[]⟩] rfl (Reads.newAt _ 72 3 1 _ _ _ rfl rfl rfl) (by simp [Value.oneCell']) (by unfold maxLen; omega) (by omega) ?_; intro v'' w2 hown2 hst2 hg2 hat2; obtain ⟨A3, cap3, rfl, hc3, hc4⟩ := own_form' hown2; have HOW2 := Lib.hid hown2; have HST2 := Lib.hid hst2; have HG2 := Lib.hid hg2; clear hown2 hst2 hg2 hat2))
  go_ret
  have hb1 := HBL.out.alloc HBL.out.size (.cells #[.int .i64 (-77), .int .u64 0, .string ⟨#[]⟩] 72)
  have how := HOW2.out
  rw [← show imcells (l ++ [⟨-77, 0, ⟨#[]⟩⟩]) = imcells l ++ [.int .i64 (-77), .int .u64 0, .string ⟨#[]⟩] by simp [imcells, Im.cells]] at how
  refine ⟨A3, cap3, _, rfl, hc3, how, hb1.grown HG2.out hb1.size ?_, ?_⟩
  · intro k hk
    rcases HAT.out with h | h
    · rw [h] at hk
      simp [Value.ownBlock] at hk
    · rw [h] at hk
      injection hk with hk
      omega
  · intro g hg
    have h1 := HBL.out.size
    rw [band_lt (Nat.lt_of_lt_of_le hg (Nat.le_trans h1 (by simp))), band_lt hg]
theorem Reads.lentI {o : Nat → Nat} {c0 : Nat} {w : World} {A : Option Addr} {cap : Nat} {l : List Im} (h : OwnS o c0 w 72 3 (.slice A (l.length + 1) cap) (l.length + 1) (imcells (l ++ [⟨-77, 0, ⟨#[]⟩⟩]))) : Reads w 3 A (l.length + 1) (imcells (l ++ [⟨-77, 0, ⟨#[]⟩⟩])) ∧ Reads w 3 A l.length (imcells l) := by
  have h1 := Reads.of_own h.1
  refine ⟨h1, ?_⟩
  have h2 := h1.take (k := l.length) (by omega)
  have e : (imcells (l ++ [⟨-77, 0, ⟨#[]⟩⟩])).take (l.length * 3) = imcells l := by
    have e1 : (imcells l).length = l.length * 3 := by
      clear h h1 h2
      induction l with
      | nil => rfl
      | cons a l ih => simp [imcells, Im.cells] at ih ⊢; omega
    rw [show imcells (l ++ [⟨-77, 0, ⟨#[]⟩⟩]) = imcells l ++ [.int .i64 (-77), .int .u64 0, .string ⟨#[]⟩] by simp [imcells, Im.cells], List.take_append_of_le_length (by omega), List.take_of_length_le (by omega)]
  rwa [e] at h2
set_option maxRecDepth 100000 in
set_option maxHeartbeats 1000000 in
theorem staysimgs_any (w : World) (A B : Option Addr) (cap cb : Nat) (l : List Im) (h : Reads w 3 A (l.length + 1) (imcells (l ++ [⟨-77, 0, ⟨#[]⟩⟩]))) (h2 : Reads w 3 A l.length (imcells l)) (hb : Reads w 3 B l.length (imcells l)) (hc : l.length < cap) (hl : l.length ≤ 1000) :
    Calls Tryz.prog 15 #[.slice A l.length cap, .slice B l.length cb] w fun e w' => e = .returned (.bool true) ∧ ∃ n, w' = w.drewN n := by
  have HA := Lib.hid h2
  have HB := Lib.hid hb
  have hlen : (l ++ [(⟨-77, 0, ⟨#[]⟩⟩ : Im)]).length = l.length + 1 := by simp
  obtain ⟨ad, rfl, c0, c1, c2⟩ := Reads.imrow (l := l ++ [⟨-77, 0, ⟨#[]⟩⟩]) (by rw [hlen]; exact h) (k := l.length) (y := ⟨-77, 0, ⟨#[]⟩⟩) (by simp)
  have C2 := Lib.hid c0
  clear h h2 hb hlen c0 c1 c2
  have hcI : (l.length : Int) + 1 ≤ (cap : Int) := by omega
  go_enter Tryz.func15, Tryz.ntmps15
  go_wp2_with fail
  refine (sameimgs_yes w (some ad) B cap cb l HA.out HB.out (by omega)).mono ?_
  rintro e w1 ⟨rfl, n, rfl⟩
  have c0 := C2.out
  go_wp2_with fail
  go_ret
  exact ⟨rfl, n, rfl⟩
end Go.Proofs.YtkhieofknglknaaGreatDoor

/- The book: marks of images; still, marked (printed by gen/mkbook.py). -/
namespace Go.Proofs.YtkhieofknglknaaGreatDoor
open Go.RowKit

def mkI (i from_ : Nat) : Nat → List Im
  | 0 => []
  | k + 1 => mkI i from_ k ++ [⟨-1 - (i : Int), from_ + k, ⟨#[]⟩⟩]
theorem mkI_len (i f k : Nat) : (mkI i f k).length = k := by
  induction k with
  | zero => rfl
  | succ k ih => simp [mkI, ih]
set_option maxRecDepth 100000 in
set_option maxHeartbeats 2000000 in
theorem markimgs_any (o : Nat → Nat) (c0 : Nat) (w : World) (i f n : Nat) (hi1 : i ≤ 1000) (hf : f + n ≤ 100000) :
    Calls Tryz.prog 191 #[.int .i64 i, .int .i64 f, .int .i64 n] w fun e w' => ∃ A cap o', e = .returned (.slice A n cap) ∧ OwnS o' c0 w' 72 3 (.slice A n cap) n (imcells (mkI i f n)) ∧ Step o (only c0) w o' w' := by
  obtain ⟨i0, hi, hz0, hz1, hz2⟩ := info_parts info_im
  go_enter Tryz.func191, Tryz.ntmps191
  go_wp2_with fail
  go_loopw [7, 8] (fun t7 t8 wr => ∃ (k : Nat) (o' : Nat → Nat) (A : Option Addr) (cap : Nat), k ≤ n ∧ t7 = .slice A k cap ∧ t8 = .int .i64 ((f + k : Nat) : Int) ∧ OwnS o' c0 wr 72 3 (.slice A k cap) k (imcells (mkI i f k)) ∧ Step o (only c0) w o' wr) (fun _ t8 _ => f + n - (intOf t8).toNat)
  case atStart => exact ⟨0, o, none, 0, by omega, rfl, rfl, OwnS.nil _ _ _ _ _, Step.refl _ _ _⟩
  case round =>
    obtain ⟨k, o1, A, cap, hk, rfl, rfl, how, hst⟩ := hrel
    have HO := Lib.hid how
    have HS := Lib.hid hst
    clear how hst
    by_cases hlt : k < n
    · have hltI : ((f + k : Nat) : Int) < (f : Int) + (n : Int) := by omega
      go_wp2_with (at_builtin; refine wpList_append_S _ rfl (.tmp 17) (.tmp 23) 23 rfl 72 i0 _ 3 32 Tryz.underlying23 hi hz0 hz1 hz2 rfl (by omega) (.slice A k cap) k (imcells (mkI i f k)) rfl (HO.out.alloc (.cells #[.int .i64 (-1 - (i : Int)), .int .u64 ((f + k : Nat) : Int), .string ⟨#[]⟩] 72)) _ 1 1 [.int .i64 (-1 - (i : Int)), .int .u64 ((f + k : Nat) : Int), .string ⟨#[]⟩] rfl (Reads.newAt _ 72 3 1 _ _ _ rfl rfl rfl) (by simp [Value.oneCell']) (by unfold maxLen; omega) (by omega) ?_; intro v' w2 hown hst2 hg hat; obtain ⟨A2, cap2, rfl, _, _⟩ := own_form' hown; have HO2 := Lib.hid hown; have HS2 := Lib.hid hst2; clear hown hst2 hg hat)
      go_roundw
      case rel =>
        refine ⟨k + 1, _, A2, cap2, by omega, by go_num, by go_num, ?_, (HS.out.alloc _).trans HS2.out⟩
        have h9 := HO2.out
        rw [← show imcells (mkI i f (k + 1)) = imcells (mkI i f k) ++ [.int .i64 (-1 - (i : Int)), .int .u64 ((f + k : Nat) : Int), .string ⟨#[]⟩] by simp [mkI, imcells, Im.cells]] at h9
        exact h9
      case measure => simp [intOf]; omega
    · have hltI : ¬ ((f + k : Nat) : Int) < (f : Int) + (n : Int) := by omega
      obtain rfl : k = n := by omega
      go_wp2_with fail
      go_ret
      exact ⟨A, cap, rfl, o1, HO.out, HS.out⟩
def imS (L : List (List Im)) : List (Nat × List Value) := L.map (fun l => (l.length, imcells l))
theorem imS_len (L : List (List Im)) : (imS L).length = L.length := by simp [imS]
theorem imS_get {L : List (List Im)} {i n : Nat} {xs : List Value} {l : List Im} (h : (imS L)[i]? = some (n, xs)) (hl : L[i]? = some l) : n = l.length ∧ xs = imcells l := by
  simp only [imS, List.getElem?_map, hl, Option.map_some, Option.some.injEq, Prod.mk.injEq] at h
  exact ⟨h.1.symm, h.2.symm⟩
theorem Kept.im {cO cI : Nat} {o : Nat → Nat} {w : World} {v : Value} {L : List (List Im)} {vs : List Value} (h : Kept 23 72 3 cO cI o w v (imS L) vs) {i : Nat} {l : List Im} (hl : L[i]? = some l) :
    ∃ ad cap A c, v = .slice (some ad) L.length cap ∧ L.length ≤ cap ∧ w.cell? (ad.add i) = some (.slice A l.length c) ∧ l.length ≤ c ∧ OwnW o (cI + i) w 72 3 (.slice A l.length c) l.length (imcells l) ∧ vs[i]? = some (.slice A l.length c) := by
  have hi := (List.getElem?_eq_some_iff.1 hl).1
  obtain ⟨ad, cap, A, c, u, n, xs, e1, h1, hu, hS, hu2, h2, hc, how⟩ := h.at_ (i := i) (by rw [imS_len]; exact hi)
  obtain ⟨rfl, rfl⟩ := imS_get hS hl
  rw [imS_len] at e1 h1
  exact ⟨ad, cap, A, c, e1, h1, hc, h2, how, by rw [hu, hu2]⟩
set_option maxRecDepth 100000 in
set_option maxHeartbeats 2000000 in
theorem stillimgs_any (o : Nat → Nat) (w : World) (p : Nat) (v v' : Value) (L : List (List Im)) (vs vs' : List Value) (a1 b1 a2 b2 : Nat) (h8 : w.cell? ⟨p, 10, none⟩ = some v) (h9 : w.cell? ⟨p, 11, none⟩ = some v')
    (k8 : Kept 23 72 3 a1 b1 o w v (imS L) vs) (k9 : Kept 23 72 3 a2 b2 o w v' (imS L) vs') (hl : ∀ l ∈ L, l.length ≤ 1000) (hL : L.length ≤ 250) :
    Calls Tryz.prog 64 #[.pointer (some ⟨p, 0, none⟩)] w fun e w' => e = .returned (.bool true) ∧ ∃ n, w' = w.drewN n := by
  have H8 := Lib.hid k8
  have H9 := Lib.hid k9
  have HL := Lib.hid hl
  obtain ⟨A8, cap8, e8, _, _⟩ := k8.outer.form
  obtain ⟨A9, cap9, e9, _, _⟩ := k9.outer.form
  rw [imS_len] at e8 e9
  have C8 := Lib.hid h8
  have C9 := Lib.hid h9
  have E8 := Lib.hid e8
  have E9 := Lib.hid e9
  clear h8 h9 k8 k9 hl e8 e9
  go_enter Tryz.func64, Tryz.ntmps64
  go_wp2_with fail
  go_loopw [3] (fun t3 wr => ∃ i n : Nat, i ≤ L.length ∧ t3 = .int .i64 i ∧ wr = w.drewN n) (fun t3 _ => L.length - (intOf t3).toNat)
  case atStart => exact ⟨0, 0, by omega, rfl, rfl⟩
  case round =>
    obtain ⟨i, n, hi, rfl, hw⟩ := hrel
    have HW := Lib.hid hw
    have h8 : wr.cell? ⟨p, 10, none⟩ = some (.slice A8 L.length cap8) := by rw [hw, ← E8.out]; exact C8.out
    have h9 : wr.cell? ⟨p, 11, none⟩ = some (.slice A9 L.length cap9) := by rw [hw, ← E9.out]; exact C9.out
    by_cases hlt : i < L.length
    · have hltI : (i : Int) < (L.length : Int) := by omega
      obtain ⟨l, hl⟩ : ∃ l, L[i]? = some l := ⟨_, List.getElem?_eq_getElem hlt⟩
      have hl1 := HL.out l (List.mem_of_getElem? hl)
      obtain ⟨ad, cap, A, c, e1, _, hc, _, how, _⟩ := (H8.out.drewN n).im hl
      obtain ⟨bd, bap, B, d, e2, _, hd, _, how2, _⟩ := (H9.out.drewN n).im hl
      rw [← hw] at hc hd how how2
      rw [E8.out] at e1
      rw [E9.out] at e2
      injection e1 with e1
      injection e2 with e2
      subst e1 e2
      have RA := Lib.hid (OwnW.reads how)
      have RB := Lib.hid (OwnW.reads how2)
      have HM := Lib.hid (show l.length ≤ 1000000000 by omega)
      clear how how2 hw hl hl1
      go_wp2_with fail
      go_region_held3 (fun w' => w'.cell? ⟨p, 10, none⟩ = some (.slice (some ad) L.length cap8) ∧ w'.cell? ⟨p, 11, none⟩ = some (.slice (some bd) L.length cap9) ∧ w'.cell? (ad.add i) = some (.slice A l.length c) ∧ w'.cell? (bd.add i) = some (.slice B l.length d))
        (first | exact ⟨h8, h9, hc, hd⟩ | go_keep)
        (first | (go_at_call 9; ((with_reducible refine (sameimgs_yes _ A B c d l RA.out.drew RB.out.drew HM.out).mono ?_); rintro e w1 ⟨rfl, m, hw1⟩)))
      clear hc hd h8 h9
      go_wp2_with fail
      go_roundw
      case rel => exact ⟨i + 1, n + 1 + m, by omega, by go_num, by rw [HW.out]; simp [World.drewN, Nat.add_assoc]⟩
      case measure => simp [intOf]; omega
    · have hltI : ¬ (i : Int) < (L.length : Int) := by omega
      clear hw
      go_wp2_with fail
      go_ret
      exact ⟨rfl, n, HW.out⟩
theorem reads_eqI {w : World} {A : Option Addr} {n : Nat} {l m : List Im} (h : l = m) (hr : Reads w 3 A n (imcells m)) : Reads w 3 A n (imcells l) := h ▸ hr
theorem cell_im {cO cI i cap n c : Nat} {o : Nat → Nat} {w : World} {ad : Addr} {L : List (List Im)} {vs : List Value} {l : List Im} {A : Option Addr} (h : Kept 23 72 3 cO cI o w (.slice (some ad) n cap) (imS L) vs) (hl : L[i]? = some l) (hx : vs[i]? = some (.slice A l.length c)) : w.cell? (ad.add i) = some (.slice A l.length c) := by
  obtain ⟨A0, cap0, e, _, _⟩ := h.outer.form
  injection e with e1 e2 e3
  have ho := h.outer
  rw [e2] at ho
  have hi := (List.getElem?_eq_some_iff.1 hl).1
  obtain ⟨ad', e4, hcell⟩ := (OwnW.reads ho).2 (by rw [imS_len]; omega)
  injection e4 with e4
  subst e4
  exact hcell i _ hx
theorem marked_afterI {cO cI i cap c c2 : Nat} {o o' : Nat → Nat} {w w' : World} {ad : Addr} {L : List (List Im)} {vs : List Value} {l : List Im} {A A2 : Option Addr} (hk : Kept 23 72 3 cO cI o w (.slice (some ad) L.length cap) (imS L) vs) (hl : L[i]? = some l) (hx : vs[i]? = some (.slice A l.length c))
    (how : OwnW o (cI + i) w 72 3 (.slice A l.length c) l.length (imcells l)) (he : l = mkI i 0 l.length) (ha : ¬ only 40 cO) (hb : ∀ i, ¬ only 40 (cI + i)) (how2 : OwnS o' 40 w' 72 3 (.slice A2 l.length c2) l.length (imcells (mkI i 0 l.length))) (hs : Step o (only 40) w o' w') :
    w'.cell? (ad.add i) = some (.slice A l.length c) ∧ Reads w' 3 A l.length (imcells l) ∧ Reads w' 3 A2 l.length (imcells l) :=
  ⟨cell_im (hk.step hs ha (fun j _ => hb j)) hl hx, OwnW.reads (how.step hs (hb i)), reads_eqI he (Reads.of_own how2.1)⟩
theorem markimgs0_any (o : Nat → Nat) (c0 : Nat) (w : World) (i n : Nat) (hi1 : i ≤ 1000) (hf : n ≤ 100000) :
    Calls Tryz.prog 191 #[.int .i64 i, .int .i64 0, .int .i64 n] w fun e w' => ∃ A cap o', e = .returned (.slice A n cap) ∧ OwnS o' c0 w' 72 3 (.slice A n cap) n (imcells (mkI i 0 n)) ∧ Step o (only c0) w o' w' :=
  markimgs_any o c0 w i 0 n hi1 (by omega)
set_option maxRecDepth 100000 in
set_option maxHeartbeats 2000000 in
theorem markedimgs_any (o : Nat → Nat) (w : World) (v : Value) (L : List (List Im)) (vs : List Value) (a1 b1 : Nat) (k8 : Kept 23 72 3 a1 b1 o w v (imS L) vs) (hl : ∀ i l, L[i]? = some l → l.length ≤ 1000 ∧ l = mkI i 0 l.length) (hL : L.length ≤ 250) (ha : a1 ≠ 40) (hb : 40 < b1) :
    Calls Tryz.prog 109 #[v] w fun e w' => e = .returned (.bool true) ∧ ∃ o', Step o (only 40) w o' w' := by
  have H8 := Lib.hid k8
  have HL := Lib.hid hl
  obtain ⟨A8, cap8, e8, _, _⟩ := k8.outer.form
  rw [imS_len] at e8
  subst e8
  have HA := Lib.hid (show ¬ only 40 a1 by unfold only; exact ha)
  have HB := Lib.hid (show ∀ i, ¬ only 40 (b1 + i) from fun i => by unfold only; omega)
  clear k8 hl ha hb
  go_enter Tryz.func109, Tryz.ntmps109
  go_wp2_with fail
  go_loopw [3] (fun t3 wr => ∃ (i : Nat) (o' : Nat → Nat), i ≤ L.length ∧ t3 = .int .i64 i ∧ Step o (only 40) w o' wr) (fun t3 _ => L.length - (intOf t3).toNat)
  case atStart => exact ⟨0, o, by omega, rfl, Step.refl _ _ _⟩
  case round =>
    obtain ⟨i, o1, hi, rfl, hs⟩ := hrel
    have HS := Lib.hid hs
    clear hs
    by_cases hlt : i < L.length
    · have hltI : (i : Int) < (L.length : Int) := by omega
      obtain ⟨l, hl⟩ : ∃ l, L[i]? = some l := ⟨_, List.getElem?_eq_getElem hlt⟩
      obtain ⟨hl1, hl2⟩ := HL.out i l hl
      have hk := H8.out.step HS.out HA.out (fun j _ => HB.out j)
      obtain ⟨ad, cap, A, c, e1, _, hc, _, how, hvs⟩ := hk.im hl
      injection e1 with e1 _ e3
      subst e1 e3
      have HK := Lib.hid (show Kept 23 72 3 a1 b1 o1 wr.drew (.slice (some ad) L.length cap8) (imS L) vs from ⟨hk.len, hk.outer, hk.inner⟩)
      have HO := Lib.hid (show OwnW o1 (b1 + i) wr.drew 72 3 (.slice A l.length c) l.length (imcells l) from how)
      have HM := Lib.hid (show l.length ≤ 1000000000 by omega)
      have HI := Lib.hid (show i ≤ 1000 by omega)
      have HN := Lib.hid (show l.length ≤ 100000 by omega)
      have HQ := Lib.hid hl
      have HE := Lib.hid hl2
      have HVS := Lib.hid hvs
      clear hk how hl hl1 hl2 hvs
      go_wp2_with fail
      go_region_held3 (fun w' => w'.cell? (ad.add i) = some (.slice A l.length c))
        (first | exact hc | exact hc2 | go_keep)
        (first | (go_at_call 9; ((with_reducible refine (sameimgs_yes _ A A2 c c2 l R1.out R2.out HM.out).mono ?_); rintro e w3 ⟨rfl, m, hw3⟩)) | (go_at_call 191; ((with_reducible refine (markimgs0_any o1 40 _ i l.length HI.out HN.out).mono ?_); rintro e w1 ⟨A2, c2, o2, rfl, how2, hs2⟩; obtain ⟨hc2, r1, r2⟩ := marked_afterI HK.out HQ.out HVS.out HO.out HE.out HA.out HB.out how2 hs2; have R1 := Lib.hid r1; have R2 := Lib.hid r2; have HS2 := Lib.hid hs2)))
      have HF := Lib.hid (show Step o (only 40) w o2 (w1.drewN m) from (HS.out.trans HS2.out.of_drew).drewN m)
      clear hw3 hc hc2 how2 hs2 r1 r2
      go_wp2_with fail
      go_roundw
      case rel => exact ⟨i + 1, o2, by omega, by go_num, HF.out⟩
      case measure => simp [intOf]; omega
    · have hltI : ¬ (i : Int) < (L.length : Int) := by omega
      go_wp2_with fail
      go_ret
      exact ⟨rfl, o1, HS.out⟩
end Go.Proofs.YtkhieofknglknaaGreatDoor
