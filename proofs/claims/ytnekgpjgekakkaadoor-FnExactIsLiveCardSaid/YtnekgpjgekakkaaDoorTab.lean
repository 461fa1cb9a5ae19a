/- The program's types, as the walk asks for them. No condition. -/
import Derived.Test.YtnekgpjgekakkaaDoorQuiet
import Derived.Test.YtnekgpjgekakkaaDoorProg
namespace Go.Proofs.YtnekgpjgekakkaaDoor.X
open Go.Proofs
set_option maxRecDepth 100000
set_option linter.unusedVariables false
theorem ty1 : TI.ok Tryd.prog 1 ⟨.other, 1, 8, false, [.nilFunc]⟩ := ⟨by show (_ : Option TypeDesc).isSome = true; rw [Tryd.underlying1]; rfl, ⟨_, rfl, rfl, rfl, _, rfl, rfl⟩, rfl, ⟨_, _, rfl, rfl, rfl⟩⟩
theorem ty2 : TI.ok Tryd.prog 2 ⟨.int .i64, 1, 8, false, [.int .i64 0]⟩ := ⟨Tryd.underlying2, ⟨_, rfl, rfl, rfl, _, rfl, rfl⟩, rfl, ⟨_, _, rfl, rfl, rfl⟩⟩
theorem ty3 : TI.ok Tryd.prog 3 ⟨.int .i64, 1, 8, false, [.int .i64 0]⟩ := ⟨Tryd.underlying3, ⟨_, rfl, rfl, rfl, _, rfl, rfl⟩, rfl, ⟨_, _, rfl, rfl, rfl⟩⟩
theorem ty4 : TI.ok Tryd.prog 4 ⟨.bool, 1, 1, false, [.bool false]⟩ := ⟨Tryd.underlying4, ⟨_, rfl, rfl, rfl, _, rfl, rfl⟩, rfl, ⟨_, _, rfl, rfl, rfl⟩⟩
theorem ty5 : TI.ok Tryd.prog 5 ⟨.int .u8, 1, 1, false, [.int .u8 0]⟩ := ⟨Tryd.underlying5, ⟨_, rfl, rfl, rfl, _, rfl, rfl⟩, rfl, ⟨_, _, rfl, rfl, rfl⟩⟩
theorem ty6 : TI.ok Tryd.prog 6 ⟨.int .u8, 1, 1, false, [.int .u8 0]⟩ := ⟨Tryd.underlying6, ⟨_, rfl, rfl, rfl, _, rfl, rfl⟩, rfl, ⟨_, _, rfl, rfl, rfl⟩⟩
theorem ty7 : TI.ok Tryd.prog 7 ⟨.struct [(0, 1), (1, 1), (2, 1), (3, 1)], 4, 24, true, [.int .i64 0, .int .i64 0, .bool false, .int .u8 0]⟩ := ⟨⟨_, Tryd.underlying7, rfl, fun i o s h => match i, h with
      | 0, h => by cases h; exact ⟨_, _, rfl, rfl, rfl, rfl, by decide⟩
      | 1, h => by cases h; exact ⟨_, _, rfl, rfl, rfl, rfl, by decide⟩
      | 2, h => by cases h; exact ⟨_, _, rfl, rfl, rfl, rfl, by decide⟩
      | 3, h => by cases h; exact ⟨_, _, rfl, rfl, rfl, rfl, by decide⟩
      | n + 4, h => by simp at h⟩, ⟨_, rfl, rfl, rfl, _, rfl, rfl⟩, rfl, ⟨_, _, rfl, rfl, rfl⟩⟩
theorem ty8 : TI.ok Tryd.prog 8 ⟨.struct [(0, 1), (1, 1), (2, 1), (3, 1)], 4, 24, true, [.int .i64 0, .int .i64 0, .bool false, .int .u8 0]⟩ := ⟨⟨_, Tryd.underlying8, rfl, fun i o s h => match i, h with
      | 0, h => by cases h; exact ⟨_, _, rfl, rfl, rfl, rfl, by decide⟩
      | 1, h => by cases h; exact ⟨_, _, rfl, rfl, rfl, rfl, by decide⟩
      | 2, h => by cases h; exact ⟨_, _, rfl, rfl, rfl, rfl, by decide⟩
      | 3, h => by cases h; exact ⟨_, _, rfl, rfl, rfl, rfl, by decide⟩
      | n + 4, h => by simp at h⟩, ⟨_, rfl, rfl, rfl, _, rfl, rfl⟩, rfl, ⟨_, _, rfl, rfl, rfl⟩⟩
theorem ty9 : TI.ok Tryd.prog 9 ⟨.str, 1, 16, false, [.string ⟨#[]⟩]⟩ := ⟨Tryd.underlying9, ⟨_, rfl, rfl, rfl, _, rfl, rfl⟩, rfl, ⟨_, _, rfl, rfl, rfl⟩⟩
theorem ty10 : TI.ok Tryd.prog 10 ⟨.str, 1, 16, false, [.string ⟨#[]⟩]⟩ := ⟨Tryd.underlying10, ⟨_, rfl, rfl, rfl, _, rfl, rfl⟩, rfl, ⟨_, _, rfl, rfl, rfl⟩⟩
theorem ty11 : TI.ok Tryd.prog 11 ⟨.str, 1, 16, false, [.string ⟨#[]⟩]⟩ := ⟨Tryd.underlying11, ⟨_, rfl, rfl, rfl, _, rfl, rfl⟩, rfl, ⟨_, _, rfl, rfl, rfl⟩⟩
theorem ty12 : TI.ok Tryd.prog 12 ⟨.int .u64, 1, 8, false, [.int .u64 0]⟩ := ⟨Tryd.underlying12, ⟨_, rfl, rfl, rfl, _, rfl, rfl⟩, rfl, ⟨_, _, rfl, rfl, rfl⟩⟩
theorem ty13 : TI.ok Tryd.prog 13 ⟨.struct [(0, 1), (1, 1)], 2, 24, true, [.string ⟨#[]⟩, .int .u64 0]⟩ := ⟨⟨_, Tryd.underlying13, rfl, fun i o s h => match i, h with
      | 0, h => by cases h; exact ⟨_, _, rfl, rfl, rfl, rfl, by decide⟩
      | 1, h => by cases h; exact ⟨_, _, rfl, rfl, rfl, rfl, by decide⟩
      | n + 2, h => by simp at h⟩, ⟨_, rfl, rfl, rfl, _, rfl, rfl⟩, rfl, ⟨_, _, rfl, rfl, rfl⟩⟩
theorem ty14 : TI.ok Tryd.prog 14 ⟨.struct [(0, 1), (1, 1)], 2, 24, true, [.string ⟨#[]⟩, .int .u64 0]⟩ := ⟨⟨_, Tryd.underlying14, rfl, fun i o s h => match i, h with
      | 0, h => by cases h; exact ⟨_, _, rfl, rfl, rfl, rfl, by decide⟩
      | 1, h => by cases h; exact ⟨_, _, rfl, rfl, rfl, rfl, by decide⟩
      | n + 2, h => by simp at h⟩, ⟨_, rfl, rfl, rfl, _, rfl, rfl⟩, rfl, ⟨_, _, rfl, rfl, rfl⟩⟩
theorem ty15 : TI.ok Tryd.prog 15 ⟨.other, 1, 8, false, [.pointer none]⟩ := ⟨by show (_ : Option TypeDesc).isSome = true; rw [Tryd.underlying15]; rfl, ⟨_, rfl, rfl, rfl, _, rfl, rfl⟩, rfl, ⟨_, _, rfl, rfl, rfl⟩⟩
theorem ty16 : TI.ok Tryd.prog 16 ⟨.other, 1, 8, false, [.pointer none]⟩ := ⟨by show (_ : Option TypeDesc).isSome = true; rw [Tryd.underlying16]; rfl, ⟨_, rfl, rfl, rfl, _, rfl, rfl⟩, rfl, ⟨_, _, rfl, rfl, rfl⟩⟩
theorem ty17 : TI.ok Tryd.prog 17 ⟨.other, 1, 8, false, [.pointer none]⟩ := ⟨by show (_ : Option TypeDesc).isSome = true; rw [Tryd.underlying17]; rfl, ⟨_, rfl, rfl, rfl, _, rfl, rfl⟩, rfl, ⟨_, _, rfl, rfl, rfl⟩⟩
theorem ty18 : TI.ok Tryd.prog 18 ⟨.struct [(0, 1)], 1, 8, true, [.pointer none]⟩ := ⟨⟨_, Tryd.underlying18, rfl, fun i o s h => match i, h with
      | 0, h => by cases h; exact ⟨_, _, rfl, rfl, rfl, rfl, by decide⟩
      | n + 1, h => by simp at h⟩, ⟨_, rfl, rfl, rfl, _, rfl, rfl⟩, rfl, ⟨_, _, rfl, rfl, rfl⟩⟩
theorem ty19 : TI.ok Tryd.prog 19 ⟨.struct [(0, 1)], 1, 8, true, [.pointer none]⟩ := ⟨⟨_, Tryd.underlying19, rfl, fun i o s h => match i, h with
      | 0, h => by cases h; exact ⟨_, _, rfl, rfl, rfl, rfl, by decide⟩
      | n + 1, h => by simp at h⟩, ⟨_, rfl, rfl, rfl, _, rfl, rfl⟩, rfl, ⟨_, _, rfl, rfl, rfl⟩⟩
theorem ty21 : TI.ok Tryd.prog 21 ⟨.int .i32, 1, 4, false, [.int .i32 0]⟩ := ⟨Tryd.underlying21, ⟨_, rfl, rfl, rfl, _, rfl, rfl⟩, rfl, ⟨_, _, rfl, rfl, rfl⟩⟩
theorem ty23 : TI.ok Tryd.prog 23 ⟨.other, 1, 8, false, [.nilFunc]⟩ := ⟨by show (_ : Option TypeDesc).isSome = true; rw [Tryd.underlying23]; rfl, ⟨_, rfl, rfl, rfl, _, rfl, rfl⟩, rfl, ⟨_, _, rfl, rfl, rfl⟩⟩
theorem ty24 : TI.ok Tryd.prog 24 ⟨.other, 1, 8, false, [.nilFunc]⟩ := ⟨by show (_ : Option TypeDesc).isSome = true; rw [Tryd.underlying24]; rfl, ⟨_, rfl, rfl, rfl, _, rfl, rfl⟩, rfl, ⟨_, _, rfl, rfl, rfl⟩⟩
theorem ty25 : TI.ok Tryd.prog 25 ⟨.other, 1, 8, false, [.nilFunc]⟩ := ⟨by show (_ : Option TypeDesc).isSome = true; rw [Tryd.underlying25]; rfl, ⟨_, rfl, rfl, rfl, _, rfl, rfl⟩, rfl, ⟨_, _, rfl, rfl, rfl⟩⟩
theorem ty26 : TI.ok Tryd.prog 26 ⟨.other, 1, 8, false, [.nilFunc]⟩ := ⟨by show (_ : Option TypeDesc).isSome = true; rw [Tryd.underlying26]; rfl, ⟨_, rfl, rfl, rfl, _, rfl, rfl⟩, rfl, ⟨_, _, rfl, rfl, rfl⟩⟩
theorem ty28 : TI.ok Tryd.prog 28 ⟨.other, 1, 8, false, [.nilFunc]⟩ := ⟨by show (_ : Option TypeDesc).isSome = true; rw [Tryd.underlying28]; rfl, ⟨_, rfl, rfl, rfl, _, rfl, rfl⟩, rfl, ⟨_, _, rfl, rfl, rfl⟩⟩
theorem ty29 : TI.ok Tryd.prog 29 ⟨.other, 1, 8, false, [.nilFunc]⟩ := ⟨by show (_ : Option TypeDesc).isSome = true; rw [Tryd.underlying29]; rfl, ⟨_, rfl, rfl, rfl, _, rfl, rfl⟩, rfl, ⟨_, _, rfl, rfl, rfl⟩⟩
theorem ty30 : TI.ok Tryd.prog 30 ⟨.slice 62, 1, 24, false, [.slice none 0 0]⟩ := ⟨Tryd.underlying30, ⟨_, rfl, rfl, rfl, _, rfl, rfl⟩, rfl, ⟨_, _, rfl, rfl, rfl⟩⟩
theorem ty32 : TI.ok Tryd.prog 32 ⟨.other, 1, 8, false, [.nilFunc]⟩ := ⟨by show (_ : Option TypeDesc).isSome = true; rw [Tryd.underlying32]; rfl, ⟨_, rfl, rfl, rfl, _, rfl, rfl⟩, rfl, ⟨_, _, rfl, rfl, rfl⟩⟩
theorem ty33 : TI.ok Tryd.prog 33 ⟨.other, 1, 8, false, [.nilFunc]⟩ := ⟨by show (_ : Option TypeDesc).isSome = true; rw [Tryd.underlying33]; rfl, ⟨_, rfl, rfl, rfl, _, rfl, rfl⟩, rfl, ⟨_, _, rfl, rfl, rfl⟩⟩
theorem ty34 : TI.ok Tryd.prog 34 ⟨.other, 1, 8, false, [.nilFunc]⟩ := ⟨by show (_ : Option TypeDesc).isSome = true; rw [Tryd.underlying34]; rfl, ⟨_, rfl, rfl, rfl, _, rfl, rfl⟩, rfl, ⟨_, _, rfl, rfl, rfl⟩⟩
theorem ty36 : TI.ok Tryd.prog 36 ⟨.other, 1, 8, false, [.nilFunc]⟩ := ⟨by show (_ : Option TypeDesc).isSome = true; rw [Tryd.underlying36]; rfl, ⟨_, rfl, rfl, rfl, _, rfl, rfl⟩, rfl, ⟨_, _, rfl, rfl, rfl⟩⟩
theorem ty37 : TI.ok Tryd.prog 37 ⟨.other, 1, 8, false, [.nilFunc]⟩ := ⟨by show (_ : Option TypeDesc).isSome = true; rw [Tryd.underlying37]; rfl, ⟨_, rfl, rfl, rfl, _, rfl, rfl⟩, rfl, ⟨_, _, rfl, rfl, rfl⟩⟩
theorem ty38 : TI.ok Tryd.prog 38 ⟨.other, 1, 8, false, [.nilFunc]⟩ := ⟨by show (_ : Option TypeDesc).isSome = true; rw [Tryd.underlying38]; rfl, ⟨_, rfl, rfl, rfl, _, rfl, rfl⟩, rfl, ⟨_, _, rfl, rfl, rfl⟩⟩
theorem ty39 : TI.ok Tryd.prog 39 ⟨.other, 1, 8, false, [.pointer none]⟩ := ⟨by show (_ : Option TypeDesc).isSome = true; rw [Tryd.underlying39]; rfl, ⟨_, rfl, rfl, rfl, _, rfl, rfl⟩, rfl, ⟨_, _, rfl, rfl, rfl⟩⟩
theorem ty40 : TI.ok Tryd.prog 40 ⟨.slice 9, 1, 24, false, [.slice none 0 0]⟩ := ⟨Tryd.underlying40, ⟨_, rfl, rfl, rfl, _, rfl, rfl⟩, rfl, ⟨_, _, rfl, rfl, rfl⟩⟩
theorem ty41 : TI.ok Tryd.prog 41 ⟨.slice 3, 1, 24, false, [.slice none 0 0]⟩ := ⟨Tryd.underlying41, ⟨_, rfl, rfl, rfl, _, rfl, rfl⟩, rfl, ⟨_, _, rfl, rfl, rfl⟩⟩
theorem ty42 : TI.ok Tryd.prog 42 ⟨.struct [(0, 1), (1, 1)], 2, 48, true, [.slice none 0 0, .slice none 0 0]⟩ := ⟨⟨_, Tryd.underlying42, rfl, fun i o s h => match i, h with
      | 0, h => by cases h; exact ⟨_, _, rfl, rfl, rfl, rfl, by decide⟩
      | 1, h => by cases h; exact ⟨_, _, rfl, rfl, rfl, rfl, by decide⟩
      | n + 2, h => by simp at h⟩, ⟨_, rfl, rfl, rfl, _, rfl, rfl⟩, rfl, ⟨_, _, rfl, rfl, rfl⟩⟩
theorem ty43 : TI.ok Tryd.prog 43 ⟨.struct [(0, 1), (1, 1)], 2, 48, true, [.slice none 0 0, .slice none 0 0]⟩ := ⟨⟨_, Tryd.underlying43, rfl, fun i o s h => match i, h with
      | 0, h => by cases h; exact ⟨_, _, rfl, rfl, rfl, rfl, by decide⟩
      | 1, h => by cases h; exact ⟨_, _, rfl, rfl, rfl, rfl, by decide⟩
      | n + 2, h => by simp at h⟩, ⟨_, rfl, rfl, rfl, _, rfl, rfl⟩, rfl, ⟨_, _, rfl, rfl, rfl⟩⟩
theorem ty44 : TI.ok Tryd.prog 44 ⟨.other, 1, 8, false, [.nilFunc]⟩ := ⟨by show (_ : Option TypeDesc).isSome = true; rw [Tryd.underlying44]; rfl, ⟨_, rfl, rfl, rfl, _, rfl, rfl⟩, rfl, ⟨_, _, rfl, rfl, rfl⟩⟩
theorem ty45 : TI.ok Tryd.prog 45 ⟨.other, 1, 8, false, [.nilFunc]⟩ := ⟨by show (_ : Option TypeDesc).isSome = true; rw [Tryd.underlying45]; rfl, ⟨_, rfl, rfl, rfl, _, rfl, rfl⟩, rfl, ⟨_, _, rfl, rfl, rfl⟩⟩
theorem ty47 : TI.ok Tryd.prog 47 ⟨.other, 1, 8, false, [.nilFunc]⟩ := ⟨by show (_ : Option TypeDesc).isSome = true; rw [Tryd.underlying47]; rfl, ⟨_, rfl, rfl, rfl, _, rfl, rfl⟩, rfl, ⟨_, _, rfl, rfl, rfl⟩⟩
theorem ty48 : TI.ok Tryd.prog 48 ⟨.other, 1, 8, false, [.nilFunc]⟩ := ⟨by show (_ : Option TypeDesc).isSome = true; rw [Tryd.underlying48]; rfl, ⟨_, rfl, rfl, rfl, _, rfl, rfl⟩, rfl, ⟨_, _, rfl, rfl, rfl⟩⟩
theorem ty49 : TI.ok Tryd.prog 49 ⟨.slice 40, 1, 24, false, [.slice none 0 0]⟩ := ⟨Tryd.underlying49, ⟨_, rfl, rfl, rfl, _, rfl, rfl⟩, rfl, ⟨_, _, rfl, rfl, rfl⟩⟩
theorem ty50 : TI.ok Tryd.prog 50 ⟨.other, 1, 8, false, [.nilFunc]⟩ := ⟨by show (_ : Option TypeDesc).isSome = true; rw [Tryd.underlying50]; rfl, ⟨_, rfl, rfl, rfl, _, rfl, rfl⟩, rfl, ⟨_, _, rfl, rfl, rfl⟩⟩
theorem ty51 : TI.ok Tryd.prog 51 ⟨.other, 1, 8, false, [.nilFunc]⟩ := ⟨by show (_ : Option TypeDesc).isSome = true; rw [Tryd.underlying51]; rfl, ⟨_, rfl, rfl, rfl, _, rfl, rfl⟩, rfl, ⟨_, _, rfl, rfl, rfl⟩⟩
theorem ty52 : TI.ok Tryd.prog 52 ⟨.other, 1, 8, false, [.nilFunc]⟩ := ⟨by show (_ : Option TypeDesc).isSome = true; rw [Tryd.underlying52]; rfl, ⟨_, rfl, rfl, rfl, _, rfl, rfl⟩, rfl, ⟨_, _, rfl, rfl, rfl⟩⟩
theorem ty53 : TI.ok Tryd.prog 53 ⟨.other, 1, 8, false, [.nilFunc]⟩ := ⟨by show (_ : Option TypeDesc).isSome = true; rw [Tryd.underlying53]; rfl, ⟨_, rfl, rfl, rfl, _, rfl, rfl⟩, rfl, ⟨_, _, rfl, rfl, rfl⟩⟩
theorem ty54 : TI.ok Tryd.prog 54 ⟨.other, 1, 8, false, [.nilFunc]⟩ := ⟨by show (_ : Option TypeDesc).isSome = true; rw [Tryd.underlying54]; rfl, ⟨_, rfl, rfl, rfl, _, rfl, rfl⟩, rfl, ⟨_, _, rfl, rfl, rfl⟩⟩
theorem ty55 : TI.ok Tryd.prog 55 ⟨.map 9 3, 1, 8, false, [.map none]⟩ := ⟨Tryd.underlying55, ⟨_, rfl, rfl, rfl, _, rfl, rfl⟩, rfl, ⟨_, _, rfl, rfl, rfl⟩⟩
theorem ty56 : TI.ok Tryd.prog 56 ⟨.struct [(0, 1), (1, 1)], 2, 24, true, [.string ⟨#[]⟩, .map none]⟩ := ⟨⟨_, Tryd.underlying56, rfl, fun i o s h => match i, h with
      | 0, h => by cases h; exact ⟨_, _, rfl, rfl, rfl, rfl, by decide⟩
      | 1, h => by cases h; exact ⟨_, _, rfl, rfl, rfl, rfl, by decide⟩
      | n + 2, h => by simp at h⟩, ⟨_, rfl, rfl, rfl, _, rfl, rfl⟩, rfl, ⟨_, _, rfl, rfl, rfl⟩⟩
theorem ty57 : TI.ok Tryd.prog 57 ⟨.struct [(0, 1), (1, 1)], 2, 24, true, [.string ⟨#[]⟩, .map none]⟩ := ⟨⟨_, Tryd.underlying57, rfl, fun i o s h => match i, h with
      | 0, h => by cases h; exact ⟨_, _, rfl, rfl, rfl, rfl, by decide⟩
      | 1, h => by cases h; exact ⟨_, _, rfl, rfl, rfl, rfl, by decide⟩
      | n + 2, h => by simp at h⟩, ⟨_, rfl, rfl, rfl, _, rfl, rfl⟩, rfl, ⟨_, _, rfl, rfl, rfl⟩⟩
theorem ty58 : TI.ok Tryd.prog 58 ⟨.other, 1, 8, false, [.nilFunc]⟩ := ⟨by show (_ : Option TypeDesc).isSome = true; rw [Tryd.underlying58]; rfl, ⟨_, rfl, rfl, rfl, _, rfl, rfl⟩, rfl, ⟨_, _, rfl, rfl, rfl⟩⟩
theorem ty59 : TI.ok Tryd.prog 59 ⟨.other, 1, 8, false, [.nilFunc]⟩ := ⟨by show (_ : Option TypeDesc).isSome = true; rw [Tryd.underlying59]; rfl, ⟨_, rfl, rfl, rfl, _, rfl, rfl⟩, rfl, ⟨_, _, rfl, rfl, rfl⟩⟩
theorem ty60 : TI.ok Tryd.prog 60 ⟨.other, 1, 8, false, [.nilFunc]⟩ := ⟨by show (_ : Option TypeDesc).isSome = true; rw [Tryd.underlying60]; rfl, ⟨_, rfl, rfl, rfl, _, rfl, rfl⟩, rfl, ⟨_, _, rfl, rfl, rfl⟩⟩
theorem ty61 : TI.ok Tryd.prog 61 ⟨.struct [(0, 1), (1, 1)], 2, 16, true, [.int .i64 0, .int .i64 0]⟩ := ⟨⟨_, Tryd.underlying61, rfl, fun i o s h => match i, h with
      | 0, h => by cases h; exact ⟨_, _, rfl, rfl, rfl, rfl, by decide⟩
      | 1, h => by cases h; exact ⟨_, _, rfl, rfl, rfl, rfl, by decide⟩
      | n + 2, h => by simp at h⟩, ⟨_, rfl, rfl, rfl, _, rfl, rfl⟩, rfl, ⟨_, _, rfl, rfl, rfl⟩⟩
theorem ty62 : TI.ok Tryd.prog 62 ⟨.struct [(0, 1), (1, 1)], 2, 16, true, [.int .i64 0, .int .i64 0]⟩ := ⟨⟨_, Tryd.underlying62, rfl, fun i o s h => match i, h with
      | 0, h => by cases h; exact ⟨_, _, rfl, rfl, rfl, rfl, by decide⟩
      | 1, h => by cases h; exact ⟨_, _, rfl, rfl, rfl, rfl, by decide⟩
      | n + 2, h => by simp at h⟩, ⟨_, rfl, rfl, rfl, _, rfl, rfl⟩, rfl, ⟨_, _, rfl, rfl, rfl⟩⟩
theorem ty63 : TI.ok Tryd.prog 63 ⟨.other, 1, 8, false, [.nilFunc]⟩ := ⟨by show (_ : Option TypeDesc).isSome = true; rw [Tryd.underlying63]; rfl, ⟨_, rfl, rfl, rfl, _, rfl, rfl⟩, rfl, ⟨_, _, rfl, rfl, rfl⟩⟩
theorem ty64 : TI.ok Tryd.prog 64 ⟨.other, 1, 8, false, [.nilFunc]⟩ := ⟨by show (_ : Option TypeDesc).isSome = true; rw [Tryd.underlying64]; rfl, ⟨_, rfl, rfl, rfl, _, rfl, rfl⟩, rfl, ⟨_, _, rfl, rfl, rfl⟩⟩
theorem ty65 : TI.ok Tryd.prog 65 ⟨.other, 1, 8, false, [.nilFunc]⟩ := ⟨by show (_ : Option TypeDesc).isSome = true; rw [Tryd.underlying65]; rfl, ⟨_, rfl, rfl, rfl, _, rfl, rfl⟩, rfl, ⟨_, _, rfl, rfl, rfl⟩⟩
theorem ty66 : TI.ok Tryd.prog 66 ⟨.other, 1, 8, false, [.nilFunc]⟩ := ⟨by show (_ : Option TypeDesc).isSome = true; rw [Tryd.underlying66]; rfl, ⟨_, rfl, rfl, rfl, _, rfl, rfl⟩, rfl, ⟨_, _, rfl, rfl, rfl⟩⟩
theorem ty67 : TI.ok Tryd.prog 67 ⟨.other, 1, 8, false, [.nilFunc]⟩ := ⟨by show (_ : Option TypeDesc).isSome = true; rw [Tryd.underlying67]; rfl, ⟨_, rfl, rfl, rfl, _, rfl, rfl⟩, rfl, ⟨_, _, rfl, rfl, rfl⟩⟩
theorem ty68 : TI.ok Tryd.prog 68 ⟨.other, 1, 8, false, [.nilFunc]⟩ := ⟨by show (_ : Option TypeDesc).isSome = true; rw [Tryd.underlying68]; rfl, ⟨_, rfl, rfl, rfl, _, rfl, rfl⟩, rfl, ⟨_, _, rfl, rfl, rfl⟩⟩
theorem ty69 : TI.ok Tryd.prog 69 ⟨.other, 1, 8, false, [.nilFunc]⟩ := ⟨by show (_ : Option TypeDesc).isSome = true; rw [Tryd.underlying69]; rfl, ⟨_, rfl, rfl, rfl, _, rfl, rfl⟩, rfl, ⟨_, _, rfl, rfl, rfl⟩⟩
theorem ty70 : TI.ok Tryd.prog 70 ⟨.other, 1, 8, false, [.nilFunc]⟩ := ⟨by show (_ : Option TypeDesc).isSome = true; rw [Tryd.underlying70]; rfl, ⟨_, rfl, rfl, rfl, _, rfl, rfl⟩, rfl, ⟨_, _, rfl, rfl, rfl⟩⟩
theorem ty71 : TI.ok Tryd.prog 71 ⟨.other, 1, 8, false, [.nilFunc]⟩ := ⟨by show (_ : Option TypeDesc).isSome = true; rw [Tryd.underlying71]; rfl, ⟨_, rfl, rfl, rfl, _, rfl, rfl⟩, rfl, ⟨_, _, rfl, rfl, rfl⟩⟩
theorem ty73 : TI.ok Tryd.prog 73 ⟨.other, 1, 8, false, [.nilFunc]⟩ := ⟨by show (_ : Option TypeDesc).isSome = true; rw [Tryd.underlying73]; rfl, ⟨_, rfl, rfl, rfl, _, rfl, rfl⟩, rfl, ⟨_, _, rfl, rfl, rfl⟩⟩
theorem ty74 : TI.ok Tryd.prog 74 ⟨.other, 1, 8, false, [.nilFunc]⟩ := ⟨by show (_ : Option TypeDesc).isSome = true; rw [Tryd.underlying74]; rfl, ⟨_, rfl, rfl, rfl, _, rfl, rfl⟩, rfl, ⟨_, _, rfl, rfl, rfl⟩⟩
theorem ty75 : TI.ok Tryd.prog 75 ⟨.other, 1, 8, false, [.nilFunc]⟩ := ⟨by show (_ : Option TypeDesc).isSome = true; rw [Tryd.underlying75]; rfl, ⟨_, rfl, rfl, rfl, _, rfl, rfl⟩, rfl, ⟨_, _, rfl, rfl, rfl⟩⟩
theorem ty76 : TI.ok Tryd.prog 76 ⟨.other, 1, 8, false, [.nilFunc]⟩ := ⟨by show (_ : Option TypeDesc).isSome = true; rw [Tryd.underlying76]; rfl, ⟨_, rfl, rfl, rfl, _, rfl, rfl⟩, rfl, ⟨_, _, rfl, rfl, rfl⟩⟩
theorem ty77 : TI.ok Tryd.prog 77 ⟨.other, 1, 8, false, [.nilFunc]⟩ := ⟨by show (_ : Option TypeDesc).isSome = true; rw [Tryd.underlying77]; rfl, ⟨_, rfl, rfl, rfl, _, rfl, rfl⟩, rfl, ⟨_, _, rfl, rfl, rfl⟩⟩
theorem ty78 : TI.ok Tryd.prog 78 ⟨.other, 1, 8, false, [.nilFunc]⟩ := ⟨by show (_ : Option TypeDesc).isSome = true; rw [Tryd.underlying78]; rfl, ⟨_, rfl, rfl, rfl, _, rfl, rfl⟩, rfl, ⟨_, _, rfl, rfl, rfl⟩⟩
theorem ty79 : TI.ok Tryd.prog 79 ⟨.other, 1, 8, false, [.nilFunc]⟩ := ⟨by show (_ : Option TypeDesc).isSome = true; rw [Tryd.underlying79]; rfl, ⟨_, rfl, rfl, rfl, _, rfl, rfl⟩, rfl, ⟨_, _, rfl, rfl, rfl⟩⟩
theorem ty80 : TI.ok Tryd.prog 80 ⟨.other, 1, 8, false, [.nilFunc]⟩ := ⟨by show (_ : Option TypeDesc).isSome = true; rw [Tryd.underlying80]; rfl, ⟨_, rfl, rfl, rfl, _, rfl, rfl⟩, rfl, ⟨_, _, rfl, rfl, rfl⟩⟩
theorem ty81 : TI.ok Tryd.prog 81 ⟨.slice 5, 1, 24, false, [.slice none 0 0]⟩ := ⟨Tryd.underlying81, ⟨_, rfl, rfl, rfl, _, rfl, rfl⟩, rfl, ⟨_, _, rfl, rfl, rfl⟩⟩
theorem ty82 : TI.ok Tryd.prog 82 ⟨.other, 1, 8, false, [.nilFunc]⟩ := ⟨by show (_ : Option TypeDesc).isSome = true; rw [Tryd.underlying82]; rfl, ⟨_, rfl, rfl, rfl, _, rfl, rfl⟩, rfl, ⟨_, _, rfl, rfl, rfl⟩⟩
theorem ty83 : TI.ok Tryd.prog 83 ⟨.other, 1, 8, false, [.nilFunc]⟩ := ⟨by show (_ : Option TypeDesc).isSome = true; rw [Tryd.underlying83]; rfl, ⟨_, rfl, rfl, rfl, _, rfl, rfl⟩, rfl, ⟨_, _, rfl, rfl, rfl⟩⟩
theorem ty84 : TI.ok Tryd.prog 84 ⟨.other, 1, 8, false, [.nilFunc]⟩ := ⟨by show (_ : Option TypeDesc).isSome = true; rw [Tryd.underlying84]; rfl, ⟨_, rfl, rfl, rfl, _, rfl, rfl⟩, rfl, ⟨_, _, rfl, rfl, rfl⟩⟩
theorem ty85 : TI.ok Tryd.prog 85 ⟨.slice 30, 1, 24, false, [.slice none 0 0]⟩ := ⟨Tryd.underlying85, ⟨_, rfl, rfl, rfl, _, rfl, rfl⟩, rfl, ⟨_, _, rfl, rfl, rfl⟩⟩
theorem ty86 : TI.ok Tryd.prog 86 ⟨.other, 1, 8, false, [.nilFunc]⟩ := ⟨by show (_ : Option TypeDesc).isSome = true; rw [Tryd.underlying86]; rfl, ⟨_, rfl, rfl, rfl, _, rfl, rfl⟩, rfl, ⟨_, _, rfl, rfl, rfl⟩⟩
theorem ty87 : TI.ok Tryd.prog 87 ⟨.other, 1, 8, false, [.nilFunc]⟩ := ⟨by show (_ : Option TypeDesc).isSome = true; rw [Tryd.underlying87]; rfl, ⟨_, rfl, rfl, rfl, _, rfl, rfl⟩, rfl, ⟨_, _, rfl, rfl, rfl⟩⟩
theorem ty88 : TI.ok Tryd.prog 88 ⟨.other, 1, 8, false, [.nilFunc]⟩ := ⟨by show (_ : Option TypeDesc).isSome = true; rw [Tryd.underlying88]; rfl, ⟨_, rfl, rfl, rfl, _, rfl, rfl⟩, rfl, ⟨_, _, rfl, rfl, rfl⟩⟩
theorem ty92 : TI.ok Tryd.prog 92 ⟨.other, 1, 8, false, [.nilFunc]⟩ := ⟨by show (_ : Option TypeDesc).isSome = true; rw [Tryd.underlying92]; rfl, ⟨_, rfl, rfl, rfl, _, rfl, rfl⟩, rfl, ⟨_, _, rfl, rfl, rfl⟩⟩
theorem ty93 : TI.ok Tryd.prog 93 ⟨.other, 1, 8, false, [.nilFunc]⟩ := ⟨by show (_ : Option TypeDesc).isSome = true; rw [Tryd.underlying93]; rfl, ⟨_, rfl, rfl, rfl, _, rfl, rfl⟩, rfl, ⟨_, _, rfl, rfl, rfl⟩⟩
theorem ty94 : TI.ok Tryd.prog 94 ⟨.other, 1, 8, false, [.pointer none]⟩ := ⟨by show (_ : Option TypeDesc).isSome = true; rw [Tryd.underlying94]; rfl, ⟨_, rfl, rfl, rfl, _, rfl, rfl⟩, rfl, ⟨_, _, rfl, rfl, rfl⟩⟩
theorem ty95 : TI.ok Tryd.prog 95 ⟨.other, 1, 8, false, [.nilFunc]⟩ := ⟨by show (_ : Option TypeDesc).isSome = true; rw [Tryd.underlying95]; rfl, ⟨_, rfl, rfl, rfl, _, rfl, rfl⟩, rfl, ⟨_, _, rfl, rfl, rfl⟩⟩
theorem ty96 : TI.ok Tryd.prog 96 ⟨.other, 1, 8, false, [.nilFunc]⟩ := ⟨by show (_ : Option TypeDesc).isSome = true; rw [Tryd.underlying96]; rfl, ⟨_, rfl, rfl, rfl, _, rfl, rfl⟩, rfl, ⟨_, _, rfl, rfl, rfl⟩⟩
theorem ty97 : TI.ok Tryd.prog 97 ⟨.other, 1, 8, false, [.nilFunc]⟩ := ⟨by show (_ : Option TypeDesc).isSome = true; rw [Tryd.underlying97]; rfl, ⟨_, rfl, rfl, rfl, _, rfl, rfl⟩, rfl, ⟨_, _, rfl, rfl, rfl⟩⟩
theorem ty98 : TI.ok Tryd.prog 98 ⟨.other, 1, 8, false, [.nilFunc]⟩ := ⟨by show (_ : Option TypeDesc).isSome = true; rw [Tryd.underlying98]; rfl, ⟨_, rfl, rfl, rfl, _, rfl, rfl⟩, rfl, ⟨_, _, rfl, rfl, rfl⟩⟩
theorem ty99 : TI.ok Tryd.prog 99 ⟨.other, 1, 8, false, [.nilFunc]⟩ := ⟨by show (_ : Option TypeDesc).isSome = true; rw [Tryd.underlying99]; rfl, ⟨_, rfl, rfl, rfl, _, rfl, rfl⟩, rfl, ⟨_, _, rfl, rfl, rfl⟩⟩
theorem ty101 : TI.ok Tryd.prog 101 ⟨.other, 1, 8, false, [.nilFunc]⟩ := ⟨by show (_ : Option TypeDesc).isSome = true; rw [Tryd.underlying101]; rfl, ⟨_, rfl, rfl, rfl, _, rfl, rfl⟩, rfl, ⟨_, _, rfl, rfl, rfl⟩⟩
theorem ty102 : TI.ok Tryd.prog 102 ⟨.other, 1, 8, false, [.nilFunc]⟩ := ⟨by show (_ : Option TypeDesc).isSome = true; rw [Tryd.underlying102]; rfl, ⟨_, rfl, rfl, rfl, _, rfl, rfl⟩, rfl, ⟨_, _, rfl, rfl, rfl⟩⟩
theorem ty103 : TI.ok Tryd.prog 103 ⟨.int .u64, 1, 8, false, [.int .u64 0]⟩ := ⟨Tryd.underlying103, ⟨_, rfl, rfl, rfl, _, rfl, rfl⟩, rfl, ⟨_, _, rfl, rfl, rfl⟩⟩
theorem ty105 : TI.ok Tryd.prog 105 ⟨.other, 1, 8, false, [.nilFunc]⟩ := ⟨by show (_ : Option TypeDesc).isSome = true; rw [Tryd.underlying105]; rfl, ⟨_, rfl, rfl, rfl, _, rfl, rfl⟩, rfl, ⟨_, _, rfl, rfl, rfl⟩⟩
theorem ty106 : TI.ok Tryd.prog 106 ⟨.other, 1, 8, false, [.pointer none]⟩ := ⟨by show (_ : Option TypeDesc).isSome = true; rw [Tryd.underlying106]; rfl, ⟨_, rfl, rfl, rfl, _, rfl, rfl⟩, rfl, ⟨_, _, rfl, rfl, rfl⟩⟩
theorem ty107 : TI.ok Tryd.prog 107 ⟨.struct [(0, 1), (1, 1)], 2, 32, true, [.pointer none, .slice none 0 0]⟩ := ⟨⟨_, Tryd.underlying107, rfl, fun i o s h => match i, h with
      | 0, h => by cases h; exact ⟨_, _, rfl, rfl, rfl, rfl, by decide⟩
      | 1, h => by cases h; exact ⟨_, _, rfl, rfl, rfl, rfl, by decide⟩
      | n + 2, h => by simp at h⟩, ⟨_, rfl, rfl, rfl, _, rfl, rfl⟩, rfl, ⟨_, _, rfl, rfl, rfl⟩⟩
theorem ty108 : TI.ok Tryd.prog 108 ⟨.struct [(0, 1), (1, 1)], 2, 32, true, [.pointer none, .slice none 0 0]⟩ := ⟨⟨_, Tryd.underlying108, rfl, fun i o s h => match i, h with
      | 0, h => by cases h; exact ⟨_, _, rfl, rfl, rfl, rfl, by decide⟩
      | 1, h => by cases h; exact ⟨_, _, rfl, rfl, rfl, rfl, by decide⟩
      | n + 2, h => by simp at h⟩, ⟨_, rfl, rfl, rfl, _, rfl, rfl⟩, rfl, ⟨_, _, rfl, rfl, rfl⟩⟩
theorem ty109 : TI.ok Tryd.prog 109 ⟨.other, 1, 8, false, [.nilFunc]⟩ := ⟨by show (_ : Option TypeDesc).isSome = true; rw [Tryd.underlying109]; rfl, ⟨_, rfl, rfl, rfl, _, rfl, rfl⟩, rfl, ⟨_, _, rfl, rfl, rfl⟩⟩
theorem ty113 : TI.ok Tryd.prog 113 ⟨.other, 1, 8, false, [.nilFunc]⟩ := ⟨by show (_ : Option TypeDesc).isSome = true; rw [Tryd.underlying113]; rfl, ⟨_, rfl, rfl, rfl, _, rfl, rfl⟩, rfl, ⟨_, _, rfl, rfl, rfl⟩⟩
theorem ty114 : TI.ok Tryd.prog 114 ⟨.other, 1, 8, false, [.nilFunc]⟩ := ⟨by show (_ : Option TypeDesc).isSome = true; rw [Tryd.underlying114]; rfl, ⟨_, rfl, rfl, rfl, _, rfl, rfl⟩, rfl, ⟨_, _, rfl, rfl, rfl⟩⟩
theorem ty115 : TI.ok Tryd.prog 115 ⟨.other, 1, 8, false, [.nilFunc]⟩ := ⟨by show (_ : Option TypeDesc).isSome = true; rw [Tryd.underlying115]; rfl, ⟨_, rfl, rfl, rfl, _, rfl, rfl⟩, rfl, ⟨_, _, rfl, rfl, rfl⟩⟩
theorem ty116 : TI.ok Tryd.prog 116 ⟨.other, 1, 8, false, [.nilFunc]⟩ := ⟨by show (_ : Option TypeDesc).isSome = true; rw [Tryd.underlying116]; rfl, ⟨_, rfl, rfl, rfl, _, rfl, rfl⟩, rfl, ⟨_, _, rfl, rfl, rfl⟩⟩
theorem ty117 : TI.ok Tryd.prog 117 ⟨.int .u32, 1, 4, false, [.int .u32 0]⟩ := ⟨Tryd.underlying117, ⟨_, rfl, rfl, rfl, _, rfl, rfl⟩, rfl, ⟨_, _, rfl, rfl, rfl⟩⟩
theorem ty119 : TI.ok Tryd.prog 119 ⟨.other, 1, 8, false, [.nilFunc]⟩ := ⟨by show (_ : Option TypeDesc).isSome = true; rw [Tryd.underlying119]; rfl, ⟨_, rfl, rfl, rfl, _, rfl, rfl⟩, rfl, ⟨_, _, rfl, rfl, rfl⟩⟩
theorem ty120 : TI.ok Tryd.prog 120 ⟨.int .u64, 1, 8, false, [.int .u64 0]⟩ := ⟨Tryd.underlying120, ⟨_, rfl, rfl, rfl, _, rfl, rfl⟩, rfl, ⟨_, _, rfl, rfl, rfl⟩⟩
theorem ty122 : TI.ok Tryd.prog 122 ⟨.other, 1, 8, false, [.nilFunc]⟩ := ⟨by show (_ : Option TypeDesc).isSome = true; rw [Tryd.underlying122]; rfl, ⟨_, rfl, rfl, rfl, _, rfl, rfl⟩, rfl, ⟨_, _, rfl, rfl, rfl⟩⟩
theorem ty123 : TI.ok Tryd.prog 123 ⟨.other, 1, 8, false, [.pointer none]⟩ := ⟨by show (_ : Option TypeDesc).isSome = true; rw [Tryd.underlying123]; rfl, ⟨_, rfl, rfl, rfl, _, rfl, rfl⟩, rfl, ⟨_, _, rfl, rfl, rfl⟩⟩
theorem ty124 : TI.ok Tryd.prog 124 ⟨.other, 1, 8, false, [.nilFunc]⟩ := ⟨by show (_ : Option TypeDesc).isSome = true; rw [Tryd.underlying124]; rfl, ⟨_, rfl, rfl, rfl, _, rfl, rfl⟩, rfl, ⟨_, _, rfl, rfl, rfl⟩⟩
theorem ty126 : TI.ok Tryd.prog 126 ⟨.struct [(0, 1), (1, 1)], 2, 2, true, [.int .u8 0, .int .u8 0]⟩ := ⟨⟨_, Tryd.underlying126, rfl, fun i o s h => match i, h with
      | 0, h => by cases h; exact ⟨_, _, rfl, rfl, rfl, rfl, by decide⟩
      | 1, h => by cases h; exact ⟨_, _, rfl, rfl, rfl, rfl, by decide⟩
      | n + 2, h => by simp at h⟩, ⟨_, rfl, rfl, rfl, _, rfl, rfl⟩, rfl, ⟨_, _, rfl, rfl, rfl⟩⟩
theorem ty127 : TI.ok Tryd.prog 127 ⟨.struct [(0, 1), (1, 1)], 2, 2, true, [.int .u8 0, .int .u8 0]⟩ := ⟨⟨_, Tryd.underlying127, rfl, fun i o s h => match i, h with
      | 0, h => by cases h; exact ⟨_, _, rfl, rfl, rfl, rfl, by decide⟩
      | 1, h => by cases h; exact ⟨_, _, rfl, rfl, rfl, rfl, by decide⟩
      | n + 2, h => by simp at h⟩, ⟨_, rfl, rfl, rfl, _, rfl, rfl⟩, rfl, ⟨_, _, rfl, rfl, rfl⟩⟩
theorem ty129 : TI.ok Tryd.prog 129 ⟨.other, 1, 8, false, [.nilFunc]⟩ := ⟨by show (_ : Option TypeDesc).isSome = true; rw [Tryd.underlying129]; rfl, ⟨_, rfl, rfl, rfl, _, rfl, rfl⟩, rfl, ⟨_, _, rfl, rfl, rfl⟩⟩
theorem ty131 : TI.ok Tryd.prog 131 ⟨.other, 1, 8, false, [.nilFunc]⟩ := ⟨by show (_ : Option TypeDesc).isSome = true; rw [Tryd.underlying131]; rfl, ⟨_, rfl, rfl, rfl, _, rfl, rfl⟩, rfl, ⟨_, _, rfl, rfl, rfl⟩⟩
theorem ty132 : TI.ok Tryd.prog 132 ⟨.other, 1, 8, false, [.nilFunc]⟩ := ⟨by show (_ : Option TypeDesc).isSome = true; rw [Tryd.underlying132]; rfl, ⟨_, rfl, rfl, rfl, _, rfl, rfl⟩, rfl, ⟨_, _, rfl, rfl, rfl⟩⟩
theorem ty133 : TI.ok Tryd.prog 133 ⟨.other, 1, 8, false, [.nilFunc]⟩ := ⟨by show (_ : Option TypeDesc).isSome = true; rw [Tryd.underlying133]; rfl, ⟨_, rfl, rfl, rfl, _, rfl, rfl⟩, rfl, ⟨_, _, rfl, rfl, rfl⟩⟩
theorem ty134 : TI.ok Tryd.prog 134 ⟨.struct [(0, 1), (1, 1), (2, 1), (3, 1)], 4, 40, true, [.pointer none, .pointer none, .pointer none, .string ⟨#[]⟩]⟩ := ⟨⟨_, Tryd.underlying134, rfl, fun i o s h => match i, h with
      | 0, h => by cases h; exact ⟨_, _, rfl, rfl, rfl, rfl, by decide⟩
      | 1, h => by cases h; exact ⟨_, _, rfl, rfl, rfl, rfl, by decide⟩
      | 2, h => by cases h; exact ⟨_, _, rfl, rfl, rfl, rfl, by decide⟩
      | 3, h => by cases h; exact ⟨_, _, rfl, rfl, rfl, rfl, by decide⟩
      | n + 4, h => by simp at h⟩, ⟨_, rfl, rfl, rfl, _, rfl, rfl⟩, rfl, ⟨_, _, rfl, rfl, rfl⟩⟩
theorem ty135 : TI.ok Tryd.prog 135 ⟨.struct [(0, 1), (1, 1), (2, 1), (3, 1)], 4, 40, true, [.pointer none, .pointer none, .pointer none, .string ⟨#[]⟩]⟩ := ⟨⟨_, Tryd.underlying135, rfl, fun i o s h => match i, h with
      | 0, h => by cases h; exact ⟨_, _, rfl, rfl, rfl, rfl, by decide⟩
      | 1, h => by cases h; exact ⟨_, _, rfl, rfl, rfl, rfl, by decide⟩
      | 2, h => by cases h; exact ⟨_, _, rfl, rfl, rfl, rfl, by decide⟩
      | 3, h => by cases h; exact ⟨_, _, rfl, rfl, rfl, rfl, by decide⟩
      | n + 4, h => by simp at h⟩, ⟨_, rfl, rfl, rfl, _, rfl, rfl⟩, rfl, ⟨_, _, rfl, rfl, rfl⟩⟩
theorem ty139 : TI.ok Tryd.prog 139 ⟨.int .u8, 1, 1, false, [.int .u8 0]⟩ := ⟨Tryd.underlying139, ⟨_, rfl, rfl, rfl, _, rfl, rfl⟩, rfl, ⟨_, _, rfl, rfl, rfl⟩⟩
theorem ty140 : TI.ok Tryd.prog 140 ⟨.int .u8, 1, 1, false, [.int .u8 0]⟩ := ⟨Tryd.underlying140, ⟨_, rfl, rfl, rfl, _, rfl, rfl⟩, rfl, ⟨_, _, rfl, rfl, rfl⟩⟩
theorem ty141 : TI.ok Tryd.prog 141 ⟨.other, 1, 8, false, [.nilFunc]⟩ := ⟨by show (_ : Option TypeDesc).isSome = true; rw [Tryd.underlying141]; rfl, ⟨_, rfl, rfl, rfl, _, rfl, rfl⟩, rfl, ⟨_, _, rfl, rfl, rfl⟩⟩
theorem ty142 : TI.ok Tryd.prog 142 ⟨.int .i32, 1, 4, false, [.int .i32 0]⟩ := ⟨Tryd.underlying142, ⟨_, rfl, rfl, rfl, _, rfl, rfl⟩, rfl, ⟨_, _, rfl, rfl, rfl⟩⟩
theorem ty143 : TI.ok Tryd.prog 143 ⟨.int .i32, 1, 4, false, [.int .i32 0]⟩ := ⟨Tryd.underlying143, ⟨_, rfl, rfl, rfl, _, rfl, rfl⟩, rfl, ⟨_, _, rfl, rfl, rfl⟩⟩
theorem ty146 : TI.ok Tryd.prog 146 ⟨.other, 1, 8, false, [.nilFunc]⟩ := ⟨by show (_ : Option TypeDesc).isSome = true; rw [Tryd.underlying146]; rfl, ⟨_, rfl, rfl, rfl, _, rfl, rfl⟩, rfl, ⟨_, _, rfl, rfl, rfl⟩⟩
def tt : Ty := [
  (2, ⟨.int .i64, 1, 8, false, [.int .i64 0]⟩),
  (3, ⟨.int .i64, 1, 8, false, [.int .i64 0]⟩),
  (4, ⟨.bool, 1, 1, false, [.bool false]⟩),
  (5, ⟨.int .u8, 1, 1, false, [.int .u8 0]⟩),
  (6, ⟨.int .u8, 1, 1, false, [.int .u8 0]⟩),
  (9, ⟨.str, 1, 16, false, [.string ⟨#[]⟩]⟩),
  (10, ⟨.str, 1, 16, false, [.string ⟨#[]⟩]⟩),
  (11, ⟨.str, 1, 16, false, [.string ⟨#[]⟩]⟩),
  (12, ⟨.int .u64, 1, 8, false, [.int .u64 0]⟩),
  (21, ⟨.int .i32, 1, 4, false, [.int .i32 0]⟩),
  (103, ⟨.int .u64, 1, 8, false, [.int .u64 0]⟩),
  (117, ⟨.int .u32, 1, 4, false, [.int .u32 0]⟩),
  (120, ⟨.int .u64, 1, 8, false, [.int .u64 0]⟩),
  (139, ⟨.int .u8, 1, 1, false, [.int .u8 0]⟩),
  (140, ⟨.int .u8, 1, 1, false, [.int .u8 0]⟩),
  (142, ⟨.int .i32, 1, 4, false, [.int .i32 0]⟩),
  (143, ⟨.int .i32, 1, 4, false, [.int .i32 0]⟩),
  (7, ⟨.struct [(0, 1), (1, 1), (2, 1), (3, 1)], 4, 24, true, [.int .i64 0, .int .i64 0, .bool false, .int .u8 0]⟩),
  (8, ⟨.struct [(0, 1), (1, 1), (2, 1), (3, 1)], 4, 24, true, [.int .i64 0, .int .i64 0, .bool false, .int .u8 0]⟩),
  (13, ⟨.struct [(0, 1), (1, 1)], 2, 24, true, [.string ⟨#[]⟩, .int .u64 0]⟩),
  (14, ⟨.struct [(0, 1), (1, 1)], 2, 24, true, [.string ⟨#[]⟩, .int .u64 0]⟩),
  (18, ⟨.struct [(0, 1)], 1, 8, true, [.pointer none]⟩),
  (19, ⟨.struct [(0, 1)], 1, 8, true, [.pointer none]⟩),
  (30, ⟨.slice 62, 1, 24, false, [.slice none 0 0]⟩),
  (40, ⟨.slice 9, 1, 24, false, [.slice none 0 0]⟩),
  (41, ⟨.slice 3, 1, 24, false, [.slice none 0 0]⟩),
  (42, ⟨.struct [(0, 1), (1, 1)], 2, 48, true, [.slice none 0 0, .slice none 0 0]⟩),
  (43, ⟨.struct [(0, 1), (1, 1)], 2, 48, true, [.slice none 0 0, .slice none 0 0]⟩),
  (49, ⟨.slice 40, 1, 24, false, [.slice none 0 0]⟩),
  (55, ⟨.map 9 3, 1, 8, false, [.map none]⟩),
  (56, ⟨.struct [(0, 1), (1, 1)], 2, 24, true, [.string ⟨#[]⟩, .map none]⟩),
  (57, ⟨.struct [(0, 1), (1, 1)], 2, 24, true, [.string ⟨#[]⟩, .map none]⟩),
  (61, ⟨.struct [(0, 1), (1, 1)], 2, 16, true, [.int .i64 0, .int .i64 0]⟩),
  (62, ⟨.struct [(0, 1), (1, 1)], 2, 16, true, [.int .i64 0, .int .i64 0]⟩),
  (81, ⟨.slice 5, 1, 24, false, [.slice none 0 0]⟩),
  (85, ⟨.slice 30, 1, 24, false, [.slice none 0 0]⟩),
  (107, ⟨.struct [(0, 1), (1, 1)], 2, 32, true, [.pointer none, .slice none 0 0]⟩),
  (108, ⟨.struct [(0, 1), (1, 1)], 2, 32, true, [.pointer none, .slice none 0 0]⟩),
  (126, ⟨.struct [(0, 1), (1, 1)], 2, 2, true, [.int .u8 0, .int .u8 0]⟩),
  (127, ⟨.struct [(0, 1), (1, 1)], 2, 2, true, [.int .u8 0, .int .u8 0]⟩),
  (134, ⟨.struct [(0, 1), (1, 1), (2, 1), (3, 1)], 4, 40, true, [.pointer none, .pointer none, .pointer none, .string ⟨#[]⟩]⟩),
  (135, ⟨.struct [(0, 1), (1, 1), (2, 1), (3, 1)], 4, 40, true, [.pointer none, .pointer none, .pointer none, .string ⟨#[]⟩]⟩),
  (1, ⟨.other, 1, 8, false, [.nilFunc]⟩),
  (15, ⟨.other, 1, 8, false, [.pointer none]⟩),
  (16, ⟨.other, 1, 8, false, [.pointer none]⟩),
  (17, ⟨.other, 1, 8, false, [.pointer none]⟩),
  (23, ⟨.other, 1, 8, false, [.nilFunc]⟩),
  (24, ⟨.other, 1, 8, false, [.nilFunc]⟩),
  (25, ⟨.other, 1, 8, false, [.nilFunc]⟩),
  (26, ⟨.other, 1, 8, false, [.nilFunc]⟩),
  (28, ⟨.other, 1, 8, false, [.nilFunc]⟩),
  (29, ⟨.other, 1, 8, false, [.nilFunc]⟩),
  (32, ⟨.other, 1, 8, false, [.nilFunc]⟩),
  (33, ⟨.other, 1, 8, false, [.nilFunc]⟩),
  (34, ⟨.other, 1, 8, false, [.nilFunc]⟩),
  (36, ⟨.other, 1, 8, false, [.nilFunc]⟩),
  (37, ⟨.other, 1, 8, false, [.nilFunc]⟩),
  (38, ⟨.other, 1, 8, false, [.nilFunc]⟩),
  (39, ⟨.other, 1, 8, false, [.pointer none]⟩),
  (44, ⟨.other, 1, 8, false, [.nilFunc]⟩),
  (45, ⟨.other, 1, 8, false, [.nilFunc]⟩),
  (47, ⟨.other, 1, 8, false, [.nilFunc]⟩),
  (48, ⟨.other, 1, 8, false, [.nilFunc]⟩),
  (50, ⟨.other, 1, 8, false, [.nilFunc]⟩),
  (51, ⟨.other, 1, 8, false, [.nilFunc]⟩),
  (52, ⟨.other, 1, 8, false, [.nilFunc]⟩),
  (53, ⟨.other, 1, 8, false, [.nilFunc]⟩),
  (54, ⟨.other, 1, 8, false, [.nilFunc]⟩),
  (58, ⟨.other, 1, 8, false, [.nilFunc]⟩),
  (59, ⟨.other, 1, 8, false, [.nilFunc]⟩),
  (60, ⟨.other, 1, 8, false, [.nilFunc]⟩),
  (63, ⟨.other, 1, 8, false, [.nilFunc]⟩),
  (64, ⟨.other, 1, 8, false, [.nilFunc]⟩),
  (65, ⟨.other, 1, 8, false, [.nilFunc]⟩),
  (66, ⟨.other, 1, 8, false, [.nilFunc]⟩),
  (67, ⟨.other, 1, 8, false, [.nilFunc]⟩),
  (68, ⟨.other, 1, 8, false, [.nilFunc]⟩),
  (69, ⟨.other, 1, 8, false, [.nilFunc]⟩),
  (70, ⟨.other, 1, 8, false, [.nilFunc]⟩),
  (71, ⟨.other, 1, 8, false, [.nilFunc]⟩),
  (73, ⟨.other, 1, 8, false, [.nilFunc]⟩),
  (74, ⟨.other, 1, 8, false, [.nilFunc]⟩),
  (75, ⟨.other, 1, 8, false, [.nilFunc]⟩),
  (76, ⟨.other, 1, 8, false, [.nilFunc]⟩),
  (77, ⟨.other, 1, 8, false, [.nilFunc]⟩),
  (78, ⟨.other, 1, 8, false, [.nilFunc]⟩),
  (79, ⟨.other, 1, 8, false, [.nilFunc]⟩),
  (80, ⟨.other, 1, 8, false, [.nilFunc]⟩),
  (82, ⟨.other, 1, 8, false, [.nilFunc]⟩),
  (83, ⟨.other, 1, 8, false, [.nilFunc]⟩),
  (84, ⟨.other, 1, 8, false, [.nilFunc]⟩),
  (86, ⟨.other, 1, 8, false, [.nilFunc]⟩),
  (87, ⟨.other, 1, 8, false, [.nilFunc]⟩),
  (88, ⟨.other, 1, 8, false, [.nilFunc]⟩),
  (92, ⟨.other, 1, 8, false, [.nilFunc]⟩),
  (93, ⟨.other, 1, 8, false, [.nilFunc]⟩),
  (94, ⟨.other, 1, 8, false, [.pointer none]⟩),
  (95, ⟨.other, 1, 8, false, [.nilFunc]⟩),
  (96, ⟨.other, 1, 8, false, [.nilFunc]⟩),
  (97, ⟨.other, 1, 8, false, [.nilFunc]⟩),
  (98, ⟨.other, 1, 8, false, [.nilFunc]⟩),
  (99, ⟨.other, 1, 8, false, [.nilFunc]⟩),
  (101, ⟨.other, 1, 8, false, [.nilFunc]⟩),
  (102, ⟨.other, 1, 8, false, [.nilFunc]⟩),
  (105, ⟨.other, 1, 8, false, [.nilFunc]⟩),
  (106, ⟨.other, 1, 8, false, [.pointer none]⟩),
  (109, ⟨.other, 1, 8, false, [.nilFunc]⟩),
  (113, ⟨.other, 1, 8, false, [.nilFunc]⟩),
  (114, ⟨.other, 1, 8, false, [.nilFunc]⟩),
  (115, ⟨.other, 1, 8, false, [.nilFunc]⟩),
  (116, ⟨.other, 1, 8, false, [.nilFunc]⟩),
  (119, ⟨.other, 1, 8, false, [.nilFunc]⟩),
  (122, ⟨.other, 1, 8, false, [.nilFunc]⟩),
  (123, ⟨.other, 1, 8, false, [.pointer none]⟩),
  (124, ⟨.other, 1, 8, false, [.nilFunc]⟩),
  (129, ⟨.other, 1, 8, false, [.nilFunc]⟩),
  (131, ⟨.other, 1, 8, false, [.nilFunc]⟩),
  (132, ⟨.other, 1, 8, false, [.nilFunc]⟩),
  (133, ⟨.other, 1, 8, false, [.nilFunc]⟩),
  (141, ⟨.other, 1, 8, false, [.nilFunc]⟩),
  (146, ⟨.other, 1, 8, false, [.nilFunc]⟩)]
theorem tt_ok : TyOk Tryd.prog tt := tyAll_ok
  ⟨ty2, ty3, ty4, ty5, ty6, ty9, ty10, ty11, ty12, ty21, ty103, ty117, ty120, ty139, ty140, ty142, ty143, ty7, ty8, ty13, ty14, ty18, ty19, ty30, ty40, ty41, ty42, ty43, ty49, ty55, ty56, ty57, ty61, ty62, ty81, ty85, ty107, ty108, ty126, ty127, ty134, ty135, ty1, ty15, ty16, ty17, ty23, ty24, ty25, ty26, ty28, ty29, ty32, ty33, ty34, ty36, ty37, ty38, ty39, ty44, ty45, ty47, ty48, ty50, ty51, ty52, ty53, ty54, ty58, ty59, ty60, ty63, ty64, ty65, ty66, ty67, ty68, ty69, ty70, ty71, ty73, ty74, ty75, ty76, ty77, ty78, ty79, ty80, ty82, ty83, ty84, ty86, ty87, ty88, ty92, ty93, ty94, ty95, ty96, ty97, ty98, ty99, ty101, ty102, ty105, ty106, ty109, ty113, ty114, ty115, ty116, ty119, ty122, ty123, ty124, ty129, ty131, ty132, ty133, ty141, ty146, trivial⟩
end Go.Proofs.YtnekgpjgekakkaaDoor.X
