/- The program's types, as the walk asks for them. No condition. -/
import Derived.Test.YtmfhfndokkhhdaaQuiet
import Derived.Test.YtmfhfndokkhhdaaProg
namespace Go.Proofs.Ytmfhfndokkhhdaa.X
open Go.Proofs
set_option maxRecDepth 100000
set_option linter.unusedVariables false
theorem ty1 : TI.ok Try.prog 1 ⟨.other, 1, 8, false, [.nilFunc]⟩ := ⟨by show (_ : Option TypeDesc).isSome = true; rw [Try.underlying1]; rfl, ⟨_, rfl, rfl, rfl, _, rfl, rfl⟩, rfl, ⟨_, _, rfl, rfl, rfl⟩⟩
theorem ty2 : TI.ok Try.prog 2 ⟨.int .i64, 1, 8, false, [.int .i64 0]⟩ := ⟨Try.underlying2, ⟨_, rfl, rfl, rfl, _, rfl, rfl⟩, rfl, ⟨_, _, rfl, rfl, rfl⟩⟩
theorem ty3 : TI.ok Try.prog 3 ⟨.int .i64, 1, 8, false, [.int .i64 0]⟩ := ⟨Try.underlying3, ⟨_, rfl, rfl, rfl, _, rfl, rfl⟩, rfl, ⟨_, _, rfl, rfl, rfl⟩⟩
theorem ty4 : TI.ok Try.prog 4 ⟨.bool, 1, 1, false, [.bool false]⟩ := ⟨Try.underlying4, ⟨_, rfl, rfl, rfl, _, rfl, rfl⟩, rfl, ⟨_, _, rfl, rfl, rfl⟩⟩
theorem ty5 : TI.ok Try.prog 5 ⟨.int .u8, 1, 1, false, [.int .u8 0]⟩ := ⟨Try.underlying5, ⟨_, rfl, rfl, rfl, _, rfl, rfl⟩, rfl, ⟨_, _, rfl, rfl, rfl⟩⟩
theorem ty6 : TI.ok Try.prog 6 ⟨.int .u8, 1, 1, false, [.int .u8 0]⟩ := ⟨Try.underlying6, ⟨_, rfl, rfl, rfl, _, rfl, rfl⟩, rfl, ⟨_, _, rfl, rfl, rfl⟩⟩
theorem ty7 : TI.ok Try.prog 7 ⟨.struct [(0, 1), (1, 1), (2, 1), (3, 1)], 4, 24, true, [.int .i64 0, .int .i64 0, .bool false, .int .u8 0]⟩ := ⟨⟨_, Try.underlying7, rfl, fun i o s h => match i, h with
      | 0, h => by cases h; exact ⟨_, _, rfl, rfl, rfl, rfl, by decide⟩
      | 1, h => by cases h; exact ⟨_, _, rfl, rfl, rfl, rfl, by decide⟩
      | 2, h => by cases h; exact ⟨_, _, rfl, rfl, rfl, rfl, by decide⟩
      | 3, h => by cases h; exact ⟨_, _, rfl, rfl, rfl, rfl, by decide⟩
      | n + 4, h => by simp at h⟩, ⟨_, rfl, rfl, rfl, _, rfl, rfl⟩, rfl, ⟨_, _, rfl, rfl, rfl⟩⟩
theorem ty8 : TI.ok Try.prog 8 ⟨.struct [(0, 1), (1, 1), (2, 1), (3, 1)], 4, 24, true, [.int .i64 0, .int .i64 0, .bool false, .int .u8 0]⟩ := ⟨⟨_, Try.underlying8, rfl, fun i o s h => match i, h with
      | 0, h => by cases h; exact ⟨_, _, rfl, rfl, rfl, rfl, by decide⟩
      | 1, h => by cases h; exact ⟨_, _, rfl, rfl, rfl, rfl, by decide⟩
      | 2, h => by cases h; exact ⟨_, _, rfl, rfl, rfl, rfl, by decide⟩
      | 3, h => by cases h; exact ⟨_, _, rfl, rfl, rfl, rfl, by decide⟩
      | n + 4, h => by simp at h⟩, ⟨_, rfl, rfl, rfl, _, rfl, rfl⟩, rfl, ⟨_, _, rfl, rfl, rfl⟩⟩
theorem ty9 : TI.ok Try.prog 9 ⟨.str, 1, 16, false, [.string ⟨#[]⟩]⟩ := ⟨Try.underlying9, ⟨_, rfl, rfl, rfl, _, rfl, rfl⟩, rfl, ⟨_, _, rfl, rfl, rfl⟩⟩
theorem ty10 : TI.ok Try.prog 10 ⟨.str, 1, 16, false, [.string ⟨#[]⟩]⟩ := ⟨Try.underlying10, ⟨_, rfl, rfl, rfl, _, rfl, rfl⟩, rfl, ⟨_, _, rfl, rfl, rfl⟩⟩
theorem ty11 : TI.ok Try.prog 11 ⟨.str, 1, 16, false, [.string ⟨#[]⟩]⟩ := ⟨Try.underlying11, ⟨_, rfl, rfl, rfl, _, rfl, rfl⟩, rfl, ⟨_, _, rfl, rfl, rfl⟩⟩
theorem ty12 : TI.ok Try.prog 12 ⟨.int .u64, 1, 8, false, [.int .u64 0]⟩ := ⟨Try.underlying12, ⟨_, rfl, rfl, rfl, _, rfl, rfl⟩, rfl, ⟨_, _, rfl, rfl, rfl⟩⟩
theorem ty13 : TI.ok Try.prog 13 ⟨.struct [(0, 1), (1, 1)], 2, 24, true, [.string ⟨#[]⟩, .int .u64 0]⟩ := ⟨⟨_, Try.underlying13, rfl, fun i o s h => match i, h with
      | 0, h => by cases h; exact ⟨_, _, rfl, rfl, rfl, rfl, by decide⟩
      | 1, h => by cases h; exact ⟨_, _, rfl, rfl, rfl, rfl, by decide⟩
      | n + 2, h => by simp at h⟩, ⟨_, rfl, rfl, rfl, _, rfl, rfl⟩, rfl, ⟨_, _, rfl, rfl, rfl⟩⟩
theorem ty14 : TI.ok Try.prog 14 ⟨.struct [(0, 1), (1, 1)], 2, 24, true, [.string ⟨#[]⟩, .int .u64 0]⟩ := ⟨⟨_, Try.underlying14, rfl, fun i o s h => match i, h with
      | 0, h => by cases h; exact ⟨_, _, rfl, rfl, rfl, rfl, by decide⟩
      | 1, h => by cases h; exact ⟨_, _, rfl, rfl, rfl, rfl, by decide⟩
      | n + 2, h => by simp at h⟩, ⟨_, rfl, rfl, rfl, _, rfl, rfl⟩, rfl, ⟨_, _, rfl, rfl, rfl⟩⟩
theorem ty15 : TI.ok Try.prog 15 ⟨.other, 1, 8, false, [.pointer none]⟩ := ⟨by show (_ : Option TypeDesc).isSome = true; rw [Try.underlying15]; rfl, ⟨_, rfl, rfl, rfl, _, rfl, rfl⟩, rfl, ⟨_, _, rfl, rfl, rfl⟩⟩
theorem ty16 : TI.ok Try.prog 16 ⟨.other, 1, 8, false, [.pointer none]⟩ := ⟨by show (_ : Option TypeDesc).isSome = true; rw [Try.underlying16]; rfl, ⟨_, rfl, rfl, rfl, _, rfl, rfl⟩, rfl, ⟨_, _, rfl, rfl, rfl⟩⟩
theorem ty17 : TI.ok Try.prog 17 ⟨.other, 1, 8, false, [.pointer none]⟩ := ⟨by show (_ : Option TypeDesc).isSome = true; rw [Try.underlying17]; rfl, ⟨_, rfl, rfl, rfl, _, rfl, rfl⟩, rfl, ⟨_, _, rfl, rfl, rfl⟩⟩
theorem ty18 : TI.ok Try.prog 18 ⟨.struct [(0, 1)], 1, 8, true, [.pointer none]⟩ := ⟨⟨_, Try.underlying18, rfl, fun i o s h => match i, h with
      | 0, h => by cases h; exact ⟨_, _, rfl, rfl, rfl, rfl, by decide⟩
      | n + 1, h => by simp at h⟩, ⟨_, rfl, rfl, rfl, _, rfl, rfl⟩, rfl, ⟨_, _, rfl, rfl, rfl⟩⟩
theorem ty19 : TI.ok Try.prog 19 ⟨.struct [(0, 1)], 1, 8, true, [.pointer none]⟩ := ⟨⟨_, Try.underlying19, rfl, fun i o s h => match i, h with
      | 0, h => by cases h; exact ⟨_, _, rfl, rfl, rfl, rfl, by decide⟩
      | n + 1, h => by simp at h⟩, ⟨_, rfl, rfl, rfl, _, rfl, rfl⟩, rfl, ⟨_, _, rfl, rfl, rfl⟩⟩
theorem ty21 : TI.ok Try.prog 21 ⟨.int .i32, 1, 4, false, [.int .i32 0]⟩ := ⟨Try.underlying21, ⟨_, rfl, rfl, rfl, _, rfl, rfl⟩, rfl, ⟨_, _, rfl, rfl, rfl⟩⟩
theorem ty22 : TI.ok Try.prog 22 ⟨.slice 62, 1, 24, false, [.slice none 0 0]⟩ := ⟨Try.underlying22, ⟨_, rfl, rfl, rfl, _, rfl, rfl⟩, rfl, ⟨_, _, rfl, rfl, rfl⟩⟩
theorem ty23 : TI.ok Try.prog 23 ⟨.struct [(0, 1), (1, 1)], 2, 32, true, [.int .i64 0, .slice none 0 0]⟩ := ⟨⟨_, Try.underlying23, rfl, fun i o s h => match i, h with
      | 0, h => by cases h; exact ⟨_, _, rfl, rfl, rfl, rfl, by decide⟩
      | 1, h => by cases h; exact ⟨_, _, rfl, rfl, rfl, rfl, by decide⟩
      | n + 2, h => by simp at h⟩, ⟨_, rfl, rfl, rfl, _, rfl, rfl⟩, rfl, ⟨_, _, rfl, rfl, rfl⟩⟩
theorem ty24 : TI.ok Try.prog 24 ⟨.struct [(0, 1), (1, 1)], 2, 32, true, [.int .i64 0, .slice none 0 0]⟩ := ⟨⟨_, Try.underlying24, rfl, fun i o s h => match i, h with
      | 0, h => by cases h; exact ⟨_, _, rfl, rfl, rfl, rfl, by decide⟩
      | 1, h => by cases h; exact ⟨_, _, rfl, rfl, rfl, rfl, by decide⟩
      | n + 2, h => by simp at h⟩, ⟨_, rfl, rfl, rfl, _, rfl, rfl⟩, rfl, ⟨_, _, rfl, rfl, rfl⟩⟩
theorem ty25 : TI.ok Try.prog 25 ⟨.other, 1, 8, false, [.nilFunc]⟩ := ⟨by show (_ : Option TypeDesc).isSome = true; rw [Try.underlying25]; rfl, ⟨_, rfl, rfl, rfl, _, rfl, rfl⟩, rfl, ⟨_, _, rfl, rfl, rfl⟩⟩
theorem ty26 : TI.ok Try.prog 26 ⟨.slice 59, 1, 24, false, [.slice none 0 0]⟩ := ⟨Try.underlying26, ⟨_, rfl, rfl, rfl, _, rfl, rfl⟩, rfl, ⟨_, _, rfl, rfl, rfl⟩⟩
theorem ty27 : TI.ok Try.prog 27 ⟨.struct [(0, 1), (1, 1)], 2, 32, true, [.int .i64 0, .slice none 0 0]⟩ := ⟨⟨_, Try.underlying27, rfl, fun i o s h => match i, h with
      | 0, h => by cases h; exact ⟨_, _, rfl, rfl, rfl, rfl, by decide⟩
      | 1, h => by cases h; exact ⟨_, _, rfl, rfl, rfl, rfl, by decide⟩
      | n + 2, h => by simp at h⟩, ⟨_, rfl, rfl, rfl, _, rfl, rfl⟩, rfl, ⟨_, _, rfl, rfl, rfl⟩⟩
theorem ty28 : TI.ok Try.prog 28 ⟨.struct [(0, 1), (1, 1)], 2, 32, true, [.int .i64 0, .slice none 0 0]⟩ := ⟨⟨_, Try.underlying28, rfl, fun i o s h => match i, h with
      | 0, h => by cases h; exact ⟨_, _, rfl, rfl, rfl, rfl, by decide⟩
      | 1, h => by cases h; exact ⟨_, _, rfl, rfl, rfl, rfl, by decide⟩
      | n + 2, h => by simp at h⟩, ⟨_, rfl, rfl, rfl, _, rfl, rfl⟩, rfl, ⟨_, _, rfl, rfl, rfl⟩⟩
theorem ty30 : TI.ok Try.prog 30 ⟨.other, 1, 8, false, [.nilFunc]⟩ := ⟨by show (_ : Option TypeDesc).isSome = true; rw [Try.underlying30]; rfl, ⟨_, rfl, rfl, rfl, _, rfl, rfl⟩, rfl, ⟨_, _, rfl, rfl, rfl⟩⟩
theorem ty31 : TI.ok Try.prog 31 ⟨.other, 1, 8, false, [.nilFunc]⟩ := ⟨by show (_ : Option TypeDesc).isSome = true; rw [Try.underlying31]; rfl, ⟨_, rfl, rfl, rfl, _, rfl, rfl⟩, rfl, ⟨_, _, rfl, rfl, rfl⟩⟩
theorem ty32 : TI.ok Try.prog 32 ⟨.other, 1, 8, false, [.nilFunc]⟩ := ⟨by show (_ : Option TypeDesc).isSome = true; rw [Try.underlying32]; rfl, ⟨_, rfl, rfl, rfl, _, rfl, rfl⟩, rfl, ⟨_, _, rfl, rfl, rfl⟩⟩
theorem ty33 : TI.ok Try.prog 33 ⟨.other, 1, 8, false, [.nilFunc]⟩ := ⟨by show (_ : Option TypeDesc).isSome = true; rw [Try.underlying33]; rfl, ⟨_, rfl, rfl, rfl, _, rfl, rfl⟩, rfl, ⟨_, _, rfl, rfl, rfl⟩⟩
theorem ty34 : TI.ok Try.prog 34 ⟨.other, 1, 8, false, [.nilFunc]⟩ := ⟨by show (_ : Option TypeDesc).isSome = true; rw [Try.underlying34]; rfl, ⟨_, rfl, rfl, rfl, _, rfl, rfl⟩, rfl, ⟨_, _, rfl, rfl, rfl⟩⟩
theorem ty35 : TI.ok Try.prog 35 ⟨.slice 3, 1, 24, false, [.slice none 0 0]⟩ := ⟨Try.underlying35, ⟨_, rfl, rfl, rfl, _, rfl, rfl⟩, rfl, ⟨_, _, rfl, rfl, rfl⟩⟩
theorem ty37 : TI.ok Try.prog 37 ⟨.other, 1, 8, false, [.nilFunc]⟩ := ⟨by show (_ : Option TypeDesc).isSome = true; rw [Try.underlying37]; rfl, ⟨_, rfl, rfl, rfl, _, rfl, rfl⟩, rfl, ⟨_, _, rfl, rfl, rfl⟩⟩
theorem ty38 : TI.ok Try.prog 38 ⟨.other, 1, 8, false, [.nilFunc]⟩ := ⟨by show (_ : Option TypeDesc).isSome = true; rw [Try.underlying38]; rfl, ⟨_, rfl, rfl, rfl, _, rfl, rfl⟩, rfl, ⟨_, _, rfl, rfl, rfl⟩⟩
theorem ty39 : TI.ok Try.prog 39 ⟨.other, 1, 8, false, [.nilFunc]⟩ := ⟨by show (_ : Option TypeDesc).isSome = true; rw [Try.underlying39]; rfl, ⟨_, rfl, rfl, rfl, _, rfl, rfl⟩, rfl, ⟨_, _, rfl, rfl, rfl⟩⟩
theorem ty40 : TI.ok Try.prog 40 ⟨.other, 1, 8, false, [.nilFunc]⟩ := ⟨by show (_ : Option TypeDesc).isSome = true; rw [Try.underlying40]; rfl, ⟨_, rfl, rfl, rfl, _, rfl, rfl⟩, rfl, ⟨_, _, rfl, rfl, rfl⟩⟩
theorem ty41 : TI.ok Try.prog 41 ⟨.other, 1, 8, false, [.nilFunc]⟩ := ⟨by show (_ : Option TypeDesc).isSome = true; rw [Try.underlying41]; rfl, ⟨_, rfl, rfl, rfl, _, rfl, rfl⟩, rfl, ⟨_, _, rfl, rfl, rfl⟩⟩
theorem ty42 : TI.ok Try.prog 42 ⟨.other, 1, 8, false, [.nilFunc]⟩ := ⟨by show (_ : Option TypeDesc).isSome = true; rw [Try.underlying42]; rfl, ⟨_, rfl, rfl, rfl, _, rfl, rfl⟩, rfl, ⟨_, _, rfl, rfl, rfl⟩⟩
theorem ty43 : TI.ok Try.prog 43 ⟨.other, 1, 8, false, [.nilFunc]⟩ := ⟨by show (_ : Option TypeDesc).isSome = true; rw [Try.underlying43]; rfl, ⟨_, rfl, rfl, rfl, _, rfl, rfl⟩, rfl, ⟨_, _, rfl, rfl, rfl⟩⟩
theorem ty44 : TI.ok Try.prog 44 ⟨.other, 1, 8, false, [.nilFunc]⟩ := ⟨by show (_ : Option TypeDesc).isSome = true; rw [Try.underlying44]; rfl, ⟨_, rfl, rfl, rfl, _, rfl, rfl⟩, rfl, ⟨_, _, rfl, rfl, rfl⟩⟩
theorem ty45 : TI.ok Try.prog 45 ⟨.other, 1, 8, false, [.nilFunc]⟩ := ⟨by show (_ : Option TypeDesc).isSome = true; rw [Try.underlying45]; rfl, ⟨_, rfl, rfl, rfl, _, rfl, rfl⟩, rfl, ⟨_, _, rfl, rfl, rfl⟩⟩
theorem ty46 : TI.ok Try.prog 46 ⟨.other, 1, 8, false, [.nilFunc]⟩ := ⟨by show (_ : Option TypeDesc).isSome = true; rw [Try.underlying46]; rfl, ⟨_, rfl, rfl, rfl, _, rfl, rfl⟩, rfl, ⟨_, _, rfl, rfl, rfl⟩⟩
theorem ty47 : TI.ok Try.prog 47 ⟨.other, 1, 8, false, [.nilFunc]⟩ := ⟨by show (_ : Option TypeDesc).isSome = true; rw [Try.underlying47]; rfl, ⟨_, rfl, rfl, rfl, _, rfl, rfl⟩, rfl, ⟨_, _, rfl, rfl, rfl⟩⟩
theorem ty48 : TI.ok Try.prog 48 ⟨.other, 1, 8, false, [.nilFunc]⟩ := ⟨by show (_ : Option TypeDesc).isSome = true; rw [Try.underlying48]; rfl, ⟨_, rfl, rfl, rfl, _, rfl, rfl⟩, rfl, ⟨_, _, rfl, rfl, rfl⟩⟩
theorem ty49 : TI.ok Try.prog 49 ⟨.map 9 4, 1, 8, false, [.map none]⟩ := ⟨Try.underlying49, ⟨_, rfl, rfl, rfl, _, rfl, rfl⟩, rfl, ⟨_, _, rfl, rfl, rfl⟩⟩
theorem ty50 : TI.ok Try.prog 50 ⟨.struct [(0, 1)], 1, 8, true, [.map none]⟩ := ⟨⟨_, Try.underlying50, rfl, fun i o s h => match i, h with
      | 0, h => by cases h; exact ⟨_, _, rfl, rfl, rfl, rfl, by decide⟩
      | n + 1, h => by simp at h⟩, ⟨_, rfl, rfl, rfl, _, rfl, rfl⟩, rfl, ⟨_, _, rfl, rfl, rfl⟩⟩
theorem ty51 : TI.ok Try.prog 51 ⟨.struct [(0, 1)], 1, 8, true, [.map none]⟩ := ⟨⟨_, Try.underlying51, rfl, fun i o s h => match i, h with
      | 0, h => by cases h; exact ⟨_, _, rfl, rfl, rfl, rfl, by decide⟩
      | n + 1, h => by simp at h⟩, ⟨_, rfl, rfl, rfl, _, rfl, rfl⟩, rfl, ⟨_, _, rfl, rfl, rfl⟩⟩
theorem ty52 : TI.ok Try.prog 52 ⟨.other, 1, 8, false, [.nilFunc]⟩ := ⟨by show (_ : Option TypeDesc).isSome = true; rw [Try.underlying52]; rfl, ⟨_, rfl, rfl, rfl, _, rfl, rfl⟩, rfl, ⟨_, _, rfl, rfl, rfl⟩⟩
theorem ty53 : TI.ok Try.prog 53 ⟨.other, 1, 8, false, [.nilFunc]⟩ := ⟨by show (_ : Option TypeDesc).isSome = true; rw [Try.underlying53]; rfl, ⟨_, rfl, rfl, rfl, _, rfl, rfl⟩, rfl, ⟨_, _, rfl, rfl, rfl⟩⟩
theorem ty54 : TI.ok Try.prog 54 ⟨.other, 1, 8, false, [.nilFunc]⟩ := ⟨by show (_ : Option TypeDesc).isSome = true; rw [Try.underlying54]; rfl, ⟨_, rfl, rfl, rfl, _, rfl, rfl⟩, rfl, ⟨_, _, rfl, rfl, rfl⟩⟩
theorem ty55 : TI.ok Try.prog 55 ⟨.other, 1, 8, false, [.nilFunc]⟩ := ⟨by show (_ : Option TypeDesc).isSome = true; rw [Try.underlying55]; rfl, ⟨_, rfl, rfl, rfl, _, rfl, rfl⟩, rfl, ⟨_, _, rfl, rfl, rfl⟩⟩
theorem ty56 : TI.ok Try.prog 56 ⟨.other, 1, 8, false, [.nilFunc]⟩ := ⟨by show (_ : Option TypeDesc).isSome = true; rw [Try.underlying56]; rfl, ⟨_, rfl, rfl, rfl, _, rfl, rfl⟩, rfl, ⟨_, _, rfl, rfl, rfl⟩⟩
theorem ty57 : TI.ok Try.prog 57 ⟨.other, 1, 8, false, [.nilFunc]⟩ := ⟨by show (_ : Option TypeDesc).isSome = true; rw [Try.underlying57]; rfl, ⟨_, rfl, rfl, rfl, _, rfl, rfl⟩, rfl, ⟨_, _, rfl, rfl, rfl⟩⟩
theorem ty58 : TI.ok Try.prog 58 ⟨.struct [(0, 1), (1, 1), (2, 1)], 3, 24, true, [.int .i64 0, .int .i64 0, .int .i64 0]⟩ := ⟨⟨_, Try.underlying58, rfl, fun i o s h => match i, h with
      | 0, h => by cases h; exact ⟨_, _, rfl, rfl, rfl, rfl, by decide⟩
      | 1, h => by cases h; exact ⟨_, _, rfl, rfl, rfl, rfl, by decide⟩
      | 2, h => by cases h; exact ⟨_, _, rfl, rfl, rfl, rfl, by decide⟩
      | n + 3, h => by simp at h⟩, ⟨_, rfl, rfl, rfl, _, rfl, rfl⟩, rfl, ⟨_, _, rfl, rfl, rfl⟩⟩
theorem ty59 : TI.ok Try.prog 59 ⟨.struct [(0, 1), (1, 1), (2, 1)], 3, 24, true, [.int .i64 0, .int .i64 0, .int .i64 0]⟩ := ⟨⟨_, Try.underlying59, rfl, fun i o s h => match i, h with
      | 0, h => by cases h; exact ⟨_, _, rfl, rfl, rfl, rfl, by decide⟩
      | 1, h => by cases h; exact ⟨_, _, rfl, rfl, rfl, rfl, by decide⟩
      | 2, h => by cases h; exact ⟨_, _, rfl, rfl, rfl, rfl, by decide⟩
      | n + 3, h => by simp at h⟩, ⟨_, rfl, rfl, rfl, _, rfl, rfl⟩, rfl, ⟨_, _, rfl, rfl, rfl⟩⟩
theorem ty60 : TI.ok Try.prog 60 ⟨.other, 1, 8, false, [.nilFunc]⟩ := ⟨by show (_ : Option TypeDesc).isSome = true; rw [Try.underlying60]; rfl, ⟨_, rfl, rfl, rfl, _, rfl, rfl⟩, rfl, ⟨_, _, rfl, rfl, rfl⟩⟩
theorem ty61 : TI.ok Try.prog 61 ⟨.other, 1, 8, false, [.nilFunc]⟩ := ⟨by show (_ : Option TypeDesc).isSome = true; rw [Try.underlying61]; rfl, ⟨_, rfl, rfl, rfl, _, rfl, rfl⟩, rfl, ⟨_, _, rfl, rfl, rfl⟩⟩
theorem ty62 : TI.ok Try.prog 62 ⟨.struct [(0, 1), (1, 1), (2, 1)], 3, 24, true, [.int .i64 0, .int .i64 0, .int .i64 0]⟩ := ⟨⟨_, Try.underlying62, rfl, fun i o s h => match i, h with
      | 0, h => by cases h; exact ⟨_, _, rfl, rfl, rfl, rfl, by decide⟩
      | 1, h => by cases h; exact ⟨_, _, rfl, rfl, rfl, rfl, by decide⟩
      | 2, h => by cases h; exact ⟨_, _, rfl, rfl, rfl, rfl, by decide⟩
      | n + 3, h => by simp at h⟩, ⟨_, rfl, rfl, rfl, _, rfl, rfl⟩, rfl, ⟨_, _, rfl, rfl, rfl⟩⟩
theorem ty63 : TI.ok Try.prog 63 ⟨.other, 1, 8, false, [.nilFunc]⟩ := ⟨by show (_ : Option TypeDesc).isSome = true; rw [Try.underlying63]; rfl, ⟨_, rfl, rfl, rfl, _, rfl, rfl⟩, rfl, ⟨_, _, rfl, rfl, rfl⟩⟩
theorem ty64 : TI.ok Try.prog 64 ⟨.other, 1, 8, false, [.nilFunc]⟩ := ⟨by show (_ : Option TypeDesc).isSome = true; rw [Try.underlying64]; rfl, ⟨_, rfl, rfl, rfl, _, rfl, rfl⟩, rfl, ⟨_, _, rfl, rfl, rfl⟩⟩
theorem ty65 : TI.ok Try.prog 65 ⟨.other, 1, 8, false, [.nilFunc]⟩ := ⟨by show (_ : Option TypeDesc).isSome = true; rw [Try.underlying65]; rfl, ⟨_, rfl, rfl, rfl, _, rfl, rfl⟩, rfl, ⟨_, _, rfl, rfl, rfl⟩⟩
theorem ty66 : TI.ok Try.prog 66 ⟨.other, 1, 8, false, [.nilFunc]⟩ := ⟨by show (_ : Option TypeDesc).isSome = true; rw [Try.underlying66]; rfl, ⟨_, rfl, rfl, rfl, _, rfl, rfl⟩, rfl, ⟨_, _, rfl, rfl, rfl⟩⟩
theorem ty67 : TI.ok Try.prog 67 ⟨.other, 1, 8, false, [.nilFunc]⟩ := ⟨by show (_ : Option TypeDesc).isSome = true; rw [Try.underlying67]; rfl, ⟨_, rfl, rfl, rfl, _, rfl, rfl⟩, rfl, ⟨_, _, rfl, rfl, rfl⟩⟩
theorem ty68 : TI.ok Try.prog 68 ⟨.other, 1, 8, false, [.nilFunc]⟩ := ⟨by show (_ : Option TypeDesc).isSome = true; rw [Try.underlying68]; rfl, ⟨_, rfl, rfl, rfl, _, rfl, rfl⟩, rfl, ⟨_, _, rfl, rfl, rfl⟩⟩
theorem ty69 : TI.ok Try.prog 69 ⟨.slice 9, 1, 24, false, [.slice none 0 0]⟩ := ⟨Try.underlying69, ⟨_, rfl, rfl, rfl, _, rfl, rfl⟩, rfl, ⟨_, _, rfl, rfl, rfl⟩⟩
theorem ty70 : TI.ok Try.prog 70 ⟨.other, 1, 8, false, [.nilFunc]⟩ := ⟨by show (_ : Option TypeDesc).isSome = true; rw [Try.underlying70]; rfl, ⟨_, rfl, rfl, rfl, _, rfl, rfl⟩, rfl, ⟨_, _, rfl, rfl, rfl⟩⟩
theorem ty72 : TI.ok Try.prog 72 ⟨.other, 1, 8, false, [.nilFunc]⟩ := ⟨by show (_ : Option TypeDesc).isSome = true; rw [Try.underlying72]; rfl, ⟨_, rfl, rfl, rfl, _, rfl, rfl⟩, rfl, ⟨_, _, rfl, rfl, rfl⟩⟩
theorem ty73 : TI.ok Try.prog 73 ⟨.slice 5, 1, 24, false, [.slice none 0 0]⟩ := ⟨Try.underlying73, ⟨_, rfl, rfl, rfl, _, rfl, rfl⟩, rfl, ⟨_, _, rfl, rfl, rfl⟩⟩
theorem ty74 : TI.ok Try.prog 74 ⟨.other, 1, 8, false, [.nilFunc]⟩ := ⟨by show (_ : Option TypeDesc).isSome = true; rw [Try.underlying74]; rfl, ⟨_, rfl, rfl, rfl, _, rfl, rfl⟩, rfl, ⟨_, _, rfl, rfl, rfl⟩⟩
theorem ty75 : TI.ok Try.prog 75 ⟨.other, 1, 8, false, [.nilFunc]⟩ := ⟨by show (_ : Option TypeDesc).isSome = true; rw [Try.underlying75]; rfl, ⟨_, rfl, rfl, rfl, _, rfl, rfl⟩, rfl, ⟨_, _, rfl, rfl, rfl⟩⟩
theorem ty76 : TI.ok Try.prog 76 ⟨.other, 1, 8, false, [.nilFunc]⟩ := ⟨by show (_ : Option TypeDesc).isSome = true; rw [Try.underlying76]; rfl, ⟨_, rfl, rfl, rfl, _, rfl, rfl⟩, rfl, ⟨_, _, rfl, rfl, rfl⟩⟩
theorem ty77 : TI.ok Try.prog 77 ⟨.other, 1, 8, false, [.pointer none]⟩ := ⟨by show (_ : Option TypeDesc).isSome = true; rw [Try.underlying77]; rfl, ⟨_, rfl, rfl, rfl, _, rfl, rfl⟩, rfl, ⟨_, _, rfl, rfl, rfl⟩⟩
theorem ty78 : TI.ok Try.prog 78 ⟨.slice 4, 1, 24, false, [.slice none 0 0]⟩ := ⟨Try.underlying78, ⟨_, rfl, rfl, rfl, _, rfl, rfl⟩, rfl, ⟨_, _, rfl, rfl, rfl⟩⟩
theorem ty79 : TI.ok Try.prog 79 ⟨.struct [(0, 1), (1, 1)], 2, 48, true, [.slice none 0 0, .slice none 0 0]⟩ := ⟨⟨_, Try.underlying79, rfl, fun i o s h => match i, h with
      | 0, h => by cases h; exact ⟨_, _, rfl, rfl, rfl, rfl, by decide⟩
      | 1, h => by cases h; exact ⟨_, _, rfl, rfl, rfl, rfl, by decide⟩
      | n + 2, h => by simp at h⟩, ⟨_, rfl, rfl, rfl, _, rfl, rfl⟩, rfl, ⟨_, _, rfl, rfl, rfl⟩⟩
theorem ty80 : TI.ok Try.prog 80 ⟨.struct [(0, 1), (1, 1)], 2, 48, true, [.slice none 0 0, .slice none 0 0]⟩ := ⟨⟨_, Try.underlying80, rfl, fun i o s h => match i, h with
      | 0, h => by cases h; exact ⟨_, _, rfl, rfl, rfl, rfl, by decide⟩
      | 1, h => by cases h; exact ⟨_, _, rfl, rfl, rfl, rfl, by decide⟩
      | n + 2, h => by simp at h⟩, ⟨_, rfl, rfl, rfl, _, rfl, rfl⟩, rfl, ⟨_, _, rfl, rfl, rfl⟩⟩
theorem ty81 : TI.ok Try.prog 81 ⟨.other, 1, 8, false, [.nilFunc]⟩ := ⟨by show (_ : Option TypeDesc).isSome = true; rw [Try.underlying81]; rfl, ⟨_, rfl, rfl, rfl, _, rfl, rfl⟩, rfl, ⟨_, _, rfl, rfl, rfl⟩⟩
theorem ty82 : TI.ok Try.prog 82 ⟨.other, 1, 8, false, [.nilFunc]⟩ := ⟨by show (_ : Option TypeDesc).isSome = true; rw [Try.underlying82]; rfl, ⟨_, rfl, rfl, rfl, _, rfl, rfl⟩, rfl, ⟨_, _, rfl, rfl, rfl⟩⟩
theorem ty83 : TI.ok Try.prog 83 ⟨.other, 1, 8, false, [.nilFunc]⟩ := ⟨by show (_ : Option TypeDesc).isSome = true; rw [Try.underlying83]; rfl, ⟨_, rfl, rfl, rfl, _, rfl, rfl⟩, rfl, ⟨_, _, rfl, rfl, rfl⟩⟩
theorem ty84 : TI.ok Try.prog 84 ⟨.int .u64, 1, 8, false, [.int .u64 0]⟩ := ⟨Try.underlying84, ⟨_, rfl, rfl, rfl, _, rfl, rfl⟩, rfl, ⟨_, _, rfl, rfl, rfl⟩⟩
theorem ty85 : TI.ok Try.prog 85 ⟨.other, 1, 8, false, [.nilFunc]⟩ := ⟨by show (_ : Option TypeDesc).isSome = true; rw [Try.underlying85]; rfl, ⟨_, rfl, rfl, rfl, _, rfl, rfl⟩, rfl, ⟨_, _, rfl, rfl, rfl⟩⟩
theorem ty87 : TI.ok Try.prog 87 ⟨.other, 1, 8, false, [.nilFunc]⟩ := ⟨by show (_ : Option TypeDesc).isSome = true; rw [Try.underlying87]; rfl, ⟨_, rfl, rfl, rfl, _, rfl, rfl⟩, rfl, ⟨_, _, rfl, rfl, rfl⟩⟩
theorem ty88 : TI.ok Try.prog 88 ⟨.slice 90, 1, 24, false, [.slice none 0 0]⟩ := ⟨Try.underlying88, ⟨_, rfl, rfl, rfl, _, rfl, rfl⟩, rfl, ⟨_, _, rfl, rfl, rfl⟩⟩
theorem ty89 : TI.ok Try.prog 89 ⟨.struct [(0, 1), (1, 1)], 2, 16, true, [.int .i64 0, .int .i64 0]⟩ := ⟨⟨_, Try.underlying89, rfl, fun i o s h => match i, h with
      | 0, h => by cases h; exact ⟨_, _, rfl, rfl, rfl, rfl, by decide⟩
      | 1, h => by cases h; exact ⟨_, _, rfl, rfl, rfl, rfl, by decide⟩
      | n + 2, h => by simp at h⟩, ⟨_, rfl, rfl, rfl, _, rfl, rfl⟩, rfl, ⟨_, _, rfl, rfl, rfl⟩⟩
theorem ty90 : TI.ok Try.prog 90 ⟨.struct [(0, 1), (1, 1)], 2, 16, true, [.int .i64 0, .int .i64 0]⟩ := ⟨⟨_, Try.underlying90, rfl, fun i o s h => match i, h with
      | 0, h => by cases h; exact ⟨_, _, rfl, rfl, rfl, rfl, by decide⟩
      | 1, h => by cases h; exact ⟨_, _, rfl, rfl, rfl, rfl, by decide⟩
      | n + 2, h => by simp at h⟩, ⟨_, rfl, rfl, rfl, _, rfl, rfl⟩, rfl, ⟨_, _, rfl, rfl, rfl⟩⟩
theorem ty91 : TI.ok Try.prog 91 ⟨.other, 1, 8, false, [.nilFunc]⟩ := ⟨by show (_ : Option TypeDesc).isSome = true; rw [Try.underlying91]; rfl, ⟨_, rfl, rfl, rfl, _, rfl, rfl⟩, rfl, ⟨_, _, rfl, rfl, rfl⟩⟩
theorem ty92 : TI.ok Try.prog 92 ⟨.other, 1, 8, false, [.nilFunc]⟩ := ⟨by show (_ : Option TypeDesc).isSome = true; rw [Try.underlying92]; rfl, ⟨_, rfl, rfl, rfl, _, rfl, rfl⟩, rfl, ⟨_, _, rfl, rfl, rfl⟩⟩
theorem ty93 : TI.ok Try.prog 93 ⟨.other, 1, 8, false, [.nilFunc]⟩ := ⟨by show (_ : Option TypeDesc).isSome = true; rw [Try.underlying93]; rfl, ⟨_, rfl, rfl, rfl, _, rfl, rfl⟩, rfl, ⟨_, _, rfl, rfl, rfl⟩⟩
theorem ty94 : TI.ok Try.prog 94 ⟨.other, 1, 8, false, [.nilFunc]⟩ := ⟨by show (_ : Option TypeDesc).isSome = true; rw [Try.underlying94]; rfl, ⟨_, rfl, rfl, rfl, _, rfl, rfl⟩, rfl, ⟨_, _, rfl, rfl, rfl⟩⟩
theorem ty95 : TI.ok Try.prog 95 ⟨.other, 1, 8, false, [.nilFunc]⟩ := ⟨by show (_ : Option TypeDesc).isSome = true; rw [Try.underlying95]; rfl, ⟨_, rfl, rfl, rfl, _, rfl, rfl⟩, rfl, ⟨_, _, rfl, rfl, rfl⟩⟩
theorem ty96 : TI.ok Try.prog 96 ⟨.other, 1, 8, false, [.nilFunc]⟩ := ⟨by show (_ : Option TypeDesc).isSome = true; rw [Try.underlying96]; rfl, ⟨_, rfl, rfl, rfl, _, rfl, rfl⟩, rfl, ⟨_, _, rfl, rfl, rfl⟩⟩
theorem ty97 : TI.ok Try.prog 97 ⟨.int .u32, 1, 4, false, [.int .u32 0]⟩ := ⟨Try.underlying97, ⟨_, rfl, rfl, rfl, _, rfl, rfl⟩, rfl, ⟨_, _, rfl, rfl, rfl⟩⟩
theorem ty99 : TI.ok Try.prog 99 ⟨.other, 1, 8, false, [.nilFunc]⟩ := ⟨by show (_ : Option TypeDesc).isSome = true; rw [Try.underlying99]; rfl, ⟨_, rfl, rfl, rfl, _, rfl, rfl⟩, rfl, ⟨_, _, rfl, rfl, rfl⟩⟩
theorem ty100 : TI.ok Try.prog 100 ⟨.other, 1, 8, false, [.nilFunc]⟩ := ⟨by show (_ : Option TypeDesc).isSome = true; rw [Try.underlying100]; rfl, ⟨_, rfl, rfl, rfl, _, rfl, rfl⟩, rfl, ⟨_, _, rfl, rfl, rfl⟩⟩
theorem ty102 : TI.ok Try.prog 102 ⟨.other, 1, 8, false, [.nilFunc]⟩ := ⟨by show (_ : Option TypeDesc).isSome = true; rw [Try.underlying102]; rfl, ⟨_, rfl, rfl, rfl, _, rfl, rfl⟩, rfl, ⟨_, _, rfl, rfl, rfl⟩⟩
theorem ty103 : TI.ok Try.prog 103 ⟨.other, 1, 8, false, [.nilFunc]⟩ := ⟨by show (_ : Option TypeDesc).isSome = true; rw [Try.underlying103]; rfl, ⟨_, rfl, rfl, rfl, _, rfl, rfl⟩, rfl, ⟨_, _, rfl, rfl, rfl⟩⟩
theorem ty104 : TI.ok Try.prog 104 ⟨.other, 1, 8, false, [.nilFunc]⟩ := ⟨by show (_ : Option TypeDesc).isSome = true; rw [Try.underlying104]; rfl, ⟨_, rfl, rfl, rfl, _, rfl, rfl⟩, rfl, ⟨_, _, rfl, rfl, rfl⟩⟩
theorem ty105 : TI.ok Try.prog 105 ⟨.other, 1, 8, false, [.nilFunc]⟩ := ⟨by show (_ : Option TypeDesc).isSome = true; rw [Try.underlying105]; rfl, ⟨_, rfl, rfl, rfl, _, rfl, rfl⟩, rfl, ⟨_, _, rfl, rfl, rfl⟩⟩
theorem ty106 : TI.ok Try.prog 106 ⟨.other, 1, 8, false, [.nilFunc]⟩ := ⟨by show (_ : Option TypeDesc).isSome = true; rw [Try.underlying106]; rfl, ⟨_, rfl, rfl, rfl, _, rfl, rfl⟩, rfl, ⟨_, _, rfl, rfl, rfl⟩⟩
theorem ty107 : TI.ok Try.prog 107 ⟨.other, 1, 8, false, [.nilFunc]⟩ := ⟨by show (_ : Option TypeDesc).isSome = true; rw [Try.underlying107]; rfl, ⟨_, rfl, rfl, rfl, _, rfl, rfl⟩, rfl, ⟨_, _, rfl, rfl, rfl⟩⟩
theorem ty108 : TI.ok Try.prog 108 ⟨.other, 1, 8, false, [.nilFunc]⟩ := ⟨by show (_ : Option TypeDesc).isSome = true; rw [Try.underlying108]; rfl, ⟨_, rfl, rfl, rfl, _, rfl, rfl⟩, rfl, ⟨_, _, rfl, rfl, rfl⟩⟩
theorem ty109 : TI.ok Try.prog 109 ⟨.other, 1, 8, false, [.nilFunc]⟩ := ⟨by show (_ : Option TypeDesc).isSome = true; rw [Try.underlying109]; rfl, ⟨_, rfl, rfl, rfl, _, rfl, rfl⟩, rfl, ⟨_, _, rfl, rfl, rfl⟩⟩
theorem ty110 : TI.ok Try.prog 110 ⟨.other, 1, 8, false, [.nilFunc]⟩ := ⟨by show (_ : Option TypeDesc).isSome = true; rw [Try.underlying110]; rfl, ⟨_, rfl, rfl, rfl, _, rfl, rfl⟩, rfl, ⟨_, _, rfl, rfl, rfl⟩⟩
theorem ty111 : TI.ok Try.prog 111 ⟨.struct [(0, 1), (1, 1), (2, 1), (3, 1)], 4, 40, true, [.pointer none, .pointer none, .pointer none, .string ⟨#[]⟩]⟩ := ⟨⟨_, Try.underlying111, rfl, fun i o s h => match i, h with
      | 0, h => by cases h; exact ⟨_, _, rfl, rfl, rfl, rfl, by decide⟩
      | 1, h => by cases h; exact ⟨_, _, rfl, rfl, rfl, rfl, by decide⟩
      | 2, h => by cases h; exact ⟨_, _, rfl, rfl, rfl, rfl, by decide⟩
      | 3, h => by cases h; exact ⟨_, _, rfl, rfl, rfl, rfl, by decide⟩
      | n + 4, h => by simp at h⟩, ⟨_, rfl, rfl, rfl, _, rfl, rfl⟩, rfl, ⟨_, _, rfl, rfl, rfl⟩⟩
theorem ty112 : TI.ok Try.prog 112 ⟨.struct [(0, 1), (1, 1), (2, 1), (3, 1)], 4, 40, true, [.pointer none, .pointer none, .pointer none, .string ⟨#[]⟩]⟩ := ⟨⟨_, Try.underlying112, rfl, fun i o s h => match i, h with
      | 0, h => by cases h; exact ⟨_, _, rfl, rfl, rfl, rfl, by decide⟩
      | 1, h => by cases h; exact ⟨_, _, rfl, rfl, rfl, rfl, by decide⟩
      | 2, h => by cases h; exact ⟨_, _, rfl, rfl, rfl, rfl, by decide⟩
      | 3, h => by cases h; exact ⟨_, _, rfl, rfl, rfl, rfl, by decide⟩
      | n + 4, h => by simp at h⟩, ⟨_, rfl, rfl, rfl, _, rfl, rfl⟩, rfl, ⟨_, _, rfl, rfl, rfl⟩⟩
theorem ty116 : TI.ok Try.prog 116 ⟨.other, 1, 8, false, [.nilFunc]⟩ := ⟨by show (_ : Option TypeDesc).isSome = true; rw [Try.underlying116]; rfl, ⟨_, rfl, rfl, rfl, _, rfl, rfl⟩, rfl, ⟨_, _, rfl, rfl, rfl⟩⟩
theorem ty117 : TI.ok Try.prog 117 ⟨.int .u8, 1, 1, false, [.int .u8 0]⟩ := ⟨Try.underlying117, ⟨_, rfl, rfl, rfl, _, rfl, rfl⟩, rfl, ⟨_, _, rfl, rfl, rfl⟩⟩
theorem ty118 : TI.ok Try.prog 118 ⟨.int .u8, 1, 1, false, [.int .u8 0]⟩ := ⟨Try.underlying118, ⟨_, rfl, rfl, rfl, _, rfl, rfl⟩, rfl, ⟨_, _, rfl, rfl, rfl⟩⟩
theorem ty119 : TI.ok Try.prog 119 ⟨.other, 1, 8, false, [.nilFunc]⟩ := ⟨by show (_ : Option TypeDesc).isSome = true; rw [Try.underlying119]; rfl, ⟨_, rfl, rfl, rfl, _, rfl, rfl⟩, rfl, ⟨_, _, rfl, rfl, rfl⟩⟩
theorem ty120 : TI.ok Try.prog 120 ⟨.other, 1, 8, false, [.pointer none]⟩ := ⟨by show (_ : Option TypeDesc).isSome = true; rw [Try.underlying120]; rfl, ⟨_, rfl, rfl, rfl, _, rfl, rfl⟩, rfl, ⟨_, _, rfl, rfl, rfl⟩⟩
theorem ty121 : TI.ok Try.prog 121 ⟨.int .i32, 1, 4, false, [.int .i32 0]⟩ := ⟨Try.underlying121, ⟨_, rfl, rfl, rfl, _, rfl, rfl⟩, rfl, ⟨_, _, rfl, rfl, rfl⟩⟩
theorem ty122 : TI.ok Try.prog 122 ⟨.int .i32, 1, 4, false, [.int .i32 0]⟩ := ⟨Try.underlying122, ⟨_, rfl, rfl, rfl, _, rfl, rfl⟩, rfl, ⟨_, _, rfl, rfl, rfl⟩⟩
theorem ty125 : TI.ok Try.prog 125 ⟨.other, 1, 8, false, [.nilFunc]⟩ := ⟨by show (_ : Option TypeDesc).isSome = true; rw [Try.underlying125]; rfl, ⟨_, rfl, rfl, rfl, _, rfl, rfl⟩, rfl, ⟨_, _, rfl, rfl, rfl⟩⟩
theorem ty126 : TI.ok Try.prog 126 ⟨.other, 1, 8, false, [.nilFunc]⟩ := ⟨by show (_ : Option TypeDesc).isSome = true; rw [Try.underlying126]; rfl, ⟨_, rfl, rfl, rfl, _, rfl, rfl⟩, rfl, ⟨_, _, rfl, rfl, rfl⟩⟩
def tt : Ty := [
  (2, ⟨.int .i64, 1, 8, false, [.int .i64 0]⟩),
  (3, ⟨.int .i64, 1, 8, false, [.int .i64 0]⟩),
  (4, ⟨.bool, 1, 1, false, [.bool false]⟩),
  (5, ⟨.int .u8, 1, 1, false, [.int .u8 0]⟩),
  (6, ⟨.int .u8, 1, 1, false, [.int .u8 0]⟩),
  (9, ⟨.str, 1, 16, false, [.string ⟨#[]⟩]⟩),
  (10, ⟨.str, 1, 16, false, [.string ⟨#[]⟩]⟩),
  (11, ⟨.str, 1, 16, false, [.string ⟨#[]⟩]⟩),
  (12, ⟨.int .u64, 1, 8, false, [.int .u64 0]⟩),
  (21, ⟨.int .i32, 1, 4, false, [.int .i32 0]⟩),
  (84, ⟨.int .u64, 1, 8, false, [.int .u64 0]⟩),
  (97, ⟨.int .u32, 1, 4, false, [.int .u32 0]⟩),
  (117, ⟨.int .u8, 1, 1, false, [.int .u8 0]⟩),
  (118, ⟨.int .u8, 1, 1, false, [.int .u8 0]⟩),
  (121, ⟨.int .i32, 1, 4, false, [.int .i32 0]⟩),
  (122, ⟨.int .i32, 1, 4, false, [.int .i32 0]⟩),
  (7, ⟨.struct [(0, 1), (1, 1), (2, 1), (3, 1)], 4, 24, true, [.int .i64 0, .int .i64 0, .bool false, .int .u8 0]⟩),
  (8, ⟨.struct [(0, 1), (1, 1), (2, 1), (3, 1)], 4, 24, true, [.int .i64 0, .int .i64 0, .bool false, .int .u8 0]⟩),
  (13, ⟨.struct [(0, 1), (1, 1)], 2, 24, true, [.string ⟨#[]⟩, .int .u64 0]⟩),
  (14, ⟨.struct [(0, 1), (1, 1)], 2, 24, true, [.string ⟨#[]⟩, .int .u64 0]⟩),
  (18, ⟨.struct [(0, 1)], 1, 8, true, [.pointer none]⟩),
  (19, ⟨.struct [(0, 1)], 1, 8, true, [.pointer none]⟩),
  (22, ⟨.slice 62, 1, 24, false, [.slice none 0 0]⟩),
  (23, ⟨.struct [(0, 1), (1, 1)], 2, 32, true, [.int .i64 0, .slice none 0 0]⟩),
  (24, ⟨.struct [(0, 1), (1, 1)], 2, 32, true, [.int .i64 0, .slice none 0 0]⟩),
  (26, ⟨.slice 59, 1, 24, false, [.slice none 0 0]⟩),
  (27, ⟨.struct [(0, 1), (1, 1)], 2, 32, true, [.int .i64 0, .slice none 0 0]⟩),
  (28, ⟨.struct [(0, 1), (1, 1)], 2, 32, true, [.int .i64 0, .slice none 0 0]⟩),
  (35, ⟨.slice 3, 1, 24, false, [.slice none 0 0]⟩),
  (49, ⟨.map 9 4, 1, 8, false, [.map none]⟩),
  (50, ⟨.struct [(0, 1)], 1, 8, true, [.map none]⟩),
  (51, ⟨.struct [(0, 1)], 1, 8, true, [.map none]⟩),
  (58, ⟨.struct [(0, 1), (1, 1), (2, 1)], 3, 24, true, [.int .i64 0, .int .i64 0, .int .i64 0]⟩),
  (59, ⟨.struct [(0, 1), (1, 1), (2, 1)], 3, 24, true, [.int .i64 0, .int .i64 0, .int .i64 0]⟩),
  (62, ⟨.struct [(0, 1), (1, 1), (2, 1)], 3, 24, true, [.int .i64 0, .int .i64 0, .int .i64 0]⟩),
  (69, ⟨.slice 9, 1, 24, false, [.slice none 0 0]⟩),
  (73, ⟨.slice 5, 1, 24, false, [.slice none 0 0]⟩),
  (78, ⟨.slice 4, 1, 24, false, [.slice none 0 0]⟩),
  (79, ⟨.struct [(0, 1), (1, 1)], 2, 48, true, [.slice none 0 0, .slice none 0 0]⟩),
  (80, ⟨.struct [(0, 1), (1, 1)], 2, 48, true, [.slice none 0 0, .slice none 0 0]⟩),
  (88, ⟨.slice 90, 1, 24, false, [.slice none 0 0]⟩),
  (89, ⟨.struct [(0, 1), (1, 1)], 2, 16, true, [.int .i64 0, .int .i64 0]⟩),
  (90, ⟨.struct [(0, 1), (1, 1)], 2, 16, true, [.int .i64 0, .int .i64 0]⟩),
  (111, ⟨.struct [(0, 1), (1, 1), (2, 1), (3, 1)], 4, 40, true, [.pointer none, .pointer none, .pointer none, .string ⟨#[]⟩]⟩),
  (112, ⟨.struct [(0, 1), (1, 1), (2, 1), (3, 1)], 4, 40, true, [.pointer none, .pointer none, .pointer none, .string ⟨#[]⟩]⟩),
  (1, ⟨.other, 1, 8, false, [.nilFunc]⟩),
  (15, ⟨.other, 1, 8, false, [.pointer none]⟩),
  (16, ⟨.other, 1, 8, false, [.pointer none]⟩),
  (17, ⟨.other, 1, 8, false, [.pointer none]⟩),
  (25, ⟨.other, 1, 8, false, [.nilFunc]⟩),
  (30, ⟨.other, 1, 8, false, [.nilFunc]⟩),
  (31, ⟨.other, 1, 8, false, [.nilFunc]⟩),
  (32, ⟨.other, 1, 8, false, [.nilFunc]⟩),
  (33, ⟨.other, 1, 8, false, [.nilFunc]⟩),
  (34, ⟨.other, 1, 8, false, [.nilFunc]⟩),
  (37, ⟨.other, 1, 8, false, [.nilFunc]⟩),
  (38, ⟨.other, 1, 8, false, [.nilFunc]⟩),
  (39, ⟨.other, 1, 8, false, [.nilFunc]⟩),
  (40, ⟨.other, 1, 8, false, [.nilFunc]⟩),
  (41, ⟨.other, 1, 8, false, [.nilFunc]⟩),
  (42, ⟨.other, 1, 8, false, [.nilFunc]⟩),
  (43, ⟨.other, 1, 8, false, [.nilFunc]⟩),
  (44, ⟨.other, 1, 8, false, [.nilFunc]⟩),
  (45, ⟨.other, 1, 8, false, [.nilFunc]⟩),
  (46, ⟨.other, 1, 8, false, [.nilFunc]⟩),
  (47, ⟨.other, 1, 8, false, [.nilFunc]⟩),
  (48, ⟨.other, 1, 8, false, [.nilFunc]⟩),
  (52, ⟨.other, 1, 8, false, [.nilFunc]⟩),
  (53, ⟨.other, 1, 8, false, [.nilFunc]⟩),
  (54, ⟨.other, 1, 8, false, [.nilFunc]⟩),
  (55, ⟨.other, 1, 8, false, [.nilFunc]⟩),
  (56, ⟨.other, 1, 8, false, [.nilFunc]⟩),
  (57, ⟨.other, 1, 8, false, [.nilFunc]⟩),
  (60, ⟨.other, 1, 8, false, [.nilFunc]⟩),
  (61, ⟨.other, 1, 8, false, [.nilFunc]⟩),
  (63, ⟨.other, 1, 8, false, [.nilFunc]⟩),
  (64, ⟨.other, 1, 8, false, [.nilFunc]⟩),
  (65, ⟨.other, 1, 8, false, [.nilFunc]⟩),
  (66, ⟨.other, 1, 8, false, [.nilFunc]⟩),
  (67, ⟨.other, 1, 8, false, [.nilFunc]⟩),
  (68, ⟨.other, 1, 8, false, [.nilFunc]⟩),
  (70, ⟨.other, 1, 8, false, [.nilFunc]⟩),
  (72, ⟨.other, 1, 8, false, [.nilFunc]⟩),
  (74, ⟨.other, 1, 8, false, [.nilFunc]⟩),
  (75, ⟨.other, 1, 8, false, [.nilFunc]⟩),
  (76, ⟨.other, 1, 8, false, [.nilFunc]⟩),
  (77, ⟨.other, 1, 8, false, [.pointer none]⟩),
  (81, ⟨.other, 1, 8, false, [.nilFunc]⟩),
  (82, ⟨.other, 1, 8, false, [.nilFunc]⟩),
  (83, ⟨.other, 1, 8, false, [.nilFunc]⟩),
  (85, ⟨.other, 1, 8, false, [.nilFunc]⟩),
  (87, ⟨.other, 1, 8, false, [.nilFunc]⟩),
  (91, ⟨.other, 1, 8, false, [.nilFunc]⟩),
  (92, ⟨.other, 1, 8, false, [.nilFunc]⟩),
  (93, ⟨.other, 1, 8, false, [.nilFunc]⟩),
  (94, ⟨.other, 1, 8, false, [.nilFunc]⟩),
  (95, ⟨.other, 1, 8, false, [.nilFunc]⟩),
  (96, ⟨.other, 1, 8, false, [.nilFunc]⟩),
  (99, ⟨.other, 1, 8, false, [.nilFunc]⟩),
  (100, ⟨.other, 1, 8, false, [.nilFunc]⟩),
  (102, ⟨.other, 1, 8, false, [.nilFunc]⟩),
  (103, ⟨.other, 1, 8, false, [.nilFunc]⟩),
  (104, ⟨.other, 1, 8, false, [.nilFunc]⟩),
  (105, ⟨.other, 1, 8, false, [.nilFunc]⟩),
  (106, ⟨.other, 1, 8, false, [.nilFunc]⟩),
  (107, ⟨.other, 1, 8, false, [.nilFunc]⟩),
  (108, ⟨.other, 1, 8, false, [.nilFunc]⟩),
  (109, ⟨.other, 1, 8, false, [.nilFunc]⟩),
  (110, ⟨.other, 1, 8, false, [.nilFunc]⟩),
  (116, ⟨.other, 1, 8, false, [.nilFunc]⟩),
  (119, ⟨.other, 1, 8, false, [.nilFunc]⟩),
  (120, ⟨.other, 1, 8, false, [.pointer none]⟩),
  (125, ⟨.other, 1, 8, false, [.nilFunc]⟩),
  (126, ⟨.other, 1, 8, false, [.nilFunc]⟩)]
theorem tt_ok : TyOk Try.prog tt := tyAll_ok
  ⟨ty2, ty3, ty4, ty5, ty6, ty9, ty10, ty11, ty12, ty21, ty84, ty97, ty117, ty118, ty121, ty122, ty7, ty8, ty13, ty14, ty18, ty19, ty22, ty23, ty24, ty26, ty27, ty28, ty35, ty49, ty50, ty51, ty58, ty59, ty62, ty69, ty73, ty78, ty79, ty80, ty88, ty89, ty90, ty111, ty112, ty1, ty15, ty16, ty17, ty25, ty30, ty31, ty32, ty33, ty34, ty37, ty38, ty39, ty40, ty41, ty42, ty43, ty44, ty45, ty46, ty47, ty48, ty52, ty53, ty54, ty55, ty56, ty57, ty60, ty61, ty63, ty64, ty65, ty66, ty67, ty68, ty70, ty72, ty74, ty75, ty76, ty77, ty81, ty82, ty83, ty85, ty87, ty91, ty92, ty93, ty94, ty95, ty96, ty99, ty100, ty102, ty103, ty104, ty105, ty106, ty107, ty108, ty109, ty110, ty116, ty119, ty120, ty125, ty126, trivial⟩
end Go.Proofs.Ytmfhfndokkhhdaa.X
