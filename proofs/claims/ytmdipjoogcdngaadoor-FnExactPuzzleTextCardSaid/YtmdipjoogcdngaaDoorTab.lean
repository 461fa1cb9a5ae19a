/- The program's types, as the walk asks for them. No condition. -/
import Derived.Test.YtmdipjoogcdngaaDoorQuiet
import Derived.Test.YtmdipjoogcdngaaDoorProg
namespace Go.Proofs.YtmdipjoogcdngaaDoor.X
open Go.Proofs
set_option maxRecDepth 100000
set_option linter.unusedVariables false
theorem ty1 : TI.ok Tryd.prog 1 ⟨.other, 1, 8, false, [.nilFunc]⟩ := ⟨by show (_ : Option TypeDesc).isSome = true; rw [Tryd.underlying1]; rfl, ⟨_, rfl, rfl, rfl, _, rfl, rfl⟩, rfl, ⟨_, _, rfl, rfl, rfl⟩⟩
theorem ty2 : TI.ok Tryd.prog 2 ⟨.int .i64, 1, 8, false, [.int .i64 0]⟩ := ⟨Tryd.underlying2, ⟨_, rfl, rfl, rfl, _, rfl, rfl⟩, rfl, ⟨_, _, rfl, rfl, rfl⟩⟩
theorem ty3 : TI.ok Tryd.prog 3 ⟨.int .i64, 1, 8, false, [.int .i64 0]⟩ := ⟨Tryd.underlying3, ⟨_, rfl, rfl, rfl, _, rfl, rfl⟩, rfl, ⟨_, _, rfl, rfl, rfl⟩⟩
theorem ty4 : TI.ok Tryd.prog 4 ⟨.bool, 1, 1, false, [.bool false]⟩ := ⟨Tryd.underlying4, ⟨_, rfl, rfl, rfl, _, rfl, rfl⟩, rfl, ⟨_, _, rfl, rfl, rfl⟩⟩
theorem ty5 : TI.ok Tryd.prog 5 ⟨.int .u8, 1, 1, false, [.int .u8 0]⟩ := ⟨Tryd.underlying5, ⟨_, rfl, rfl, rfl, _, rfl, rfl⟩, rfl, ⟨_, _, rfl, rfl, rfl⟩⟩
theorem ty6 : TI.ok Tryd.prog 6 ⟨.int .u8, 1, 1, false, [.int .u8 0]⟩ := ⟨Tryd.underlying6, ⟨_, rfl, rfl, rfl, _, rfl, rfl⟩, rfl, ⟨_, _, rfl, rfl, rfl⟩⟩
theorem ty7 : TI.ok Tryd.prog 7 ⟨.struct [(0, 1), (1, 1), (2, 1), (3, 1)], 4, 24, true, [.int .i64 0, .int .i64 0, .bool false, .int .u8 0]⟩ := ⟨⟨_, Tryd.underlying7, rfl, fun i o s h => match i, h with
      | 0, h => by cases h; exact ⟨_, _, rfl, rfl, rfl, rfl, by decide⟩
      | 1, h => by cases h; exact ⟨_, _, rfl, rfl, rfl, rfl, by decide⟩
      | 2, h => by cases h; exact ⟨_, _, rfl, rfl, rfl, rfl, by decide⟩
      | 3, h => by cases h; exact ⟨_, _, rfl, rfl, rfl, rfl, by decide⟩
      | n + 4, h => by simp at h⟩, ⟨_, rfl, rfl, rfl, _, rfl, rfl⟩, rfl, ⟨_, _, rfl, rfl, rfl⟩⟩
theorem ty8 : TI.ok Tryd.prog 8 ⟨.struct [(0, 1), (1, 1), (2, 1), (3, 1)], 4, 24, true, [.int .i64 0, .int .i64 0, .bool false, .int .u8 0]⟩ := ⟨⟨_, Tryd.underlying8, rfl, fun i o s h => match i, h with
      | 0, h => by cases h; exact ⟨_, _, rfl, rfl, rfl, rfl, by decide⟩
      | 1, h => by cases h; exact ⟨_, _, rfl, rfl, rfl, rfl, by decide⟩
      | 2, h => by cases h; exact ⟨_, _, rfl, rfl, rfl, rfl, by decide⟩
      | 3, h => by cases h; exact ⟨_, _, rfl, rfl, rfl, rfl, by decide⟩
      | n + 4, h => by simp at h⟩, ⟨_, rfl, rfl, rfl, _, rfl, rfl⟩, rfl, ⟨_, _, rfl, rfl, rfl⟩⟩
theorem ty9 : TI.ok Tryd.prog 9 ⟨.str, 1, 16, false, [.string ⟨#[]⟩]⟩ := ⟨Tryd.underlying9, ⟨_, rfl, rfl, rfl, _, rfl, rfl⟩, rfl, ⟨_, _, rfl, rfl, rfl⟩⟩
theorem ty10 : TI.ok Tryd.prog 10 ⟨.str, 1, 16, false, [.string ⟨#[]⟩]⟩ := ⟨Tryd.underlying10, ⟨_, rfl, rfl, rfl, _, rfl, rfl⟩, rfl, ⟨_, _, rfl, rfl, rfl⟩⟩
theorem ty11 : TI.ok Tryd.prog 11 ⟨.str, 1, 16, false, [.string ⟨#[]⟩]⟩ := ⟨Tryd.underlying11, ⟨_, rfl, rfl, rfl, _, rfl, rfl⟩, rfl, ⟨_, _, rfl, rfl, rfl⟩⟩
theorem ty12 : TI.ok Tryd.prog 12 ⟨.int .u64, 1, 8, false, [.int .u64 0]⟩ := ⟨Tryd.underlying12, ⟨_, rfl, rfl, rfl, _, rfl, rfl⟩, rfl, ⟨_, _, rfl, rfl, rfl⟩⟩
theorem ty13 : TI.ok Tryd.prog 13 ⟨.struct [(0, 1), (1, 1)], 2, 24, true, [.string ⟨#[]⟩, .int .u64 0]⟩ := ⟨⟨_, Tryd.underlying13, rfl, fun i o s h => match i, h with
      | 0, h => by cases h; exact ⟨_, _, rfl, rfl, rfl, rfl, by decide⟩
      | 1, h => by cases h; exact ⟨_, _, rfl, rfl, rfl, rfl, by decide⟩
      | n + 2, h => by simp at h⟩, ⟨_, rfl, rfl, rfl, _, rfl, rfl⟩, rfl, ⟨_, _, rfl, rfl, rfl⟩⟩
theorem ty14 : TI.ok Tryd.prog 14 ⟨.struct [(0, 1), (1, 1)], 2, 24, true, [.string ⟨#[]⟩, .int .u64 0]⟩ := ⟨⟨_, Tryd.underlying14, rfl, fun i o s h => match i, h with
      | 0, h => by cases h; exact ⟨_, _, rfl, rfl, rfl, rfl, by decide⟩
      | 1, h => by cases h; exact ⟨_, _, rfl, rfl, rfl, rfl, by decide⟩
      | n + 2, h => by simp at h⟩, ⟨_, rfl, rfl, rfl, _, rfl, rfl⟩, rfl, ⟨_, _, rfl, rfl, rfl⟩⟩
theorem ty15 : TI.ok Tryd.prog 15 ⟨.other, 1, 8, false, [.pointer none]⟩ := ⟨by show (_ : Option TypeDesc).isSome = true; rw [Tryd.underlying15]; rfl, ⟨_, rfl, rfl, rfl, _, rfl, rfl⟩, rfl, ⟨_, _, rfl, rfl, rfl⟩⟩
theorem ty16 : TI.ok Tryd.prog 16 ⟨.other, 1, 8, false, [.pointer none]⟩ := ⟨by show (_ : Option TypeDesc).isSome = true; rw [Tryd.underlying16]; rfl, ⟨_, rfl, rfl, rfl, _, rfl, rfl⟩, rfl, ⟨_, _, rfl, rfl, rfl⟩⟩
theorem ty17 : TI.ok Tryd.prog 17 ⟨.other, 1, 8, false, [.pointer none]⟩ := ⟨by show (_ : Option TypeDesc).isSome = true; rw [Tryd.underlying17]; rfl, ⟨_, rfl, rfl, rfl, _, rfl, rfl⟩, rfl, ⟨_, _, rfl, rfl, rfl⟩⟩
theorem ty18 : TI.ok Tryd.prog 18 ⟨.struct [(0, 1)], 1, 8, true, [.pointer none]⟩ := ⟨⟨_, Tryd.underlying18, rfl, fun i o s h => match i, h with
      | 0, h => by cases h; exact ⟨_, _, rfl, rfl, rfl, rfl, by decide⟩
      | n + 1, h => by simp at h⟩, ⟨_, rfl, rfl, rfl, _, rfl, rfl⟩, rfl, ⟨_, _, rfl, rfl, rfl⟩⟩
theorem ty19 : TI.ok Tryd.prog 19 ⟨.struct [(0, 1)], 1, 8, true, [.pointer none]⟩ := ⟨⟨_, Tryd.underlying19, rfl, fun i o s h => match i, h with
      | 0, h => by cases h; exact ⟨_, _, rfl, rfl, rfl, rfl, by decide⟩
      | n + 1, h => by simp at h⟩, ⟨_, rfl, rfl, rfl, _, rfl, rfl⟩, rfl, ⟨_, _, rfl, rfl, rfl⟩⟩
theorem ty21 : TI.ok Tryd.prog 21 ⟨.int .i32, 1, 4, false, [.int .i32 0]⟩ := ⟨Tryd.underlying21, ⟨_, rfl, rfl, rfl, _, rfl, rfl⟩, rfl, ⟨_, _, rfl, rfl, rfl⟩⟩
theorem ty23 : TI.ok Tryd.prog 23 ⟨.other, 1, 8, false, [.nilFunc]⟩ := ⟨by show (_ : Option TypeDesc).isSome = true; rw [Tryd.underlying23]; rfl, ⟨_, rfl, rfl, rfl, _, rfl, rfl⟩, rfl, ⟨_, _, rfl, rfl, rfl⟩⟩
theorem ty24 : TI.ok Tryd.prog 24 ⟨.other, 1, 8, false, [.nilFunc]⟩ := ⟨by show (_ : Option TypeDesc).isSome = true; rw [Tryd.underlying24]; rfl, ⟨_, rfl, rfl, rfl, _, rfl, rfl⟩, rfl, ⟨_, _, rfl, rfl, rfl⟩⟩
theorem ty25 : TI.ok Tryd.prog 25 ⟨.struct [(0, 1), (1, 1), (2, 1)], 3, 24, true, [.int .i64 0, .int .i64 0, .int .i64 0]⟩ := ⟨⟨_, Tryd.underlying25, rfl, fun i o s h => match i, h with
      | 0, h => by cases h; exact ⟨_, _, rfl, rfl, rfl, rfl, by decide⟩
      | 1, h => by cases h; exact ⟨_, _, rfl, rfl, rfl, rfl, by decide⟩
      | 2, h => by cases h; exact ⟨_, _, rfl, rfl, rfl, rfl, by decide⟩
      | n + 3, h => by simp at h⟩, ⟨_, rfl, rfl, rfl, _, rfl, rfl⟩, rfl, ⟨_, _, rfl, rfl, rfl⟩⟩
theorem ty26 : TI.ok Tryd.prog 26 ⟨.struct [(0, 1), (1, 1), (2, 1)], 3, 24, true, [.int .i64 0, .int .i64 0, .int .i64 0]⟩ := ⟨⟨_, Tryd.underlying26, rfl, fun i o s h => match i, h with
      | 0, h => by cases h; exact ⟨_, _, rfl, rfl, rfl, rfl, by decide⟩
      | 1, h => by cases h; exact ⟨_, _, rfl, rfl, rfl, rfl, by decide⟩
      | 2, h => by cases h; exact ⟨_, _, rfl, rfl, rfl, rfl, by decide⟩
      | n + 3, h => by simp at h⟩, ⟨_, rfl, rfl, rfl, _, rfl, rfl⟩, rfl, ⟨_, _, rfl, rfl, rfl⟩⟩
theorem ty28 : TI.ok Tryd.prog 28 ⟨.other, 1, 8, false, [.nilFunc]⟩ := ⟨by show (_ : Option TypeDesc).isSome = true; rw [Tryd.underlying28]; rfl, ⟨_, rfl, rfl, rfl, _, rfl, rfl⟩, rfl, ⟨_, _, rfl, rfl, rfl⟩⟩
theorem ty29 : TI.ok Tryd.prog 29 ⟨.struct [(0, 1), (1, 1), (2, 1)], 3, 24, true, [.int .i64 0, .int .i64 0, .int .i64 0]⟩ := ⟨⟨_, Tryd.underlying29, rfl, fun i o s h => match i, h with
      | 0, h => by cases h; exact ⟨_, _, rfl, rfl, rfl, rfl, by decide⟩
      | 1, h => by cases h; exact ⟨_, _, rfl, rfl, rfl, rfl, by decide⟩
      | 2, h => by cases h; exact ⟨_, _, rfl, rfl, rfl, rfl, by decide⟩
      | n + 3, h => by simp at h⟩, ⟨_, rfl, rfl, rfl, _, rfl, rfl⟩, rfl, ⟨_, _, rfl, rfl, rfl⟩⟩
theorem ty30 : TI.ok Tryd.prog 30 ⟨.other, 1, 8, false, [.nilFunc]⟩ := ⟨by show (_ : Option TypeDesc).isSome = true; rw [Tryd.underlying30]; rfl, ⟨_, rfl, rfl, rfl, _, rfl, rfl⟩, rfl, ⟨_, _, rfl, rfl, rfl⟩⟩
theorem ty31 : TI.ok Tryd.prog 31 ⟨.other, 1, 8, false, [.nilFunc]⟩ := ⟨by show (_ : Option TypeDesc).isSome = true; rw [Tryd.underlying31]; rfl, ⟨_, rfl, rfl, rfl, _, rfl, rfl⟩, rfl, ⟨_, _, rfl, rfl, rfl⟩⟩
theorem ty32 : TI.ok Tryd.prog 32 ⟨.slice 29, 1, 24, false, [.slice none 0 0]⟩ := ⟨Tryd.underlying32, ⟨_, rfl, rfl, rfl, _, rfl, rfl⟩, rfl, ⟨_, _, rfl, rfl, rfl⟩⟩
theorem ty33 : TI.ok Tryd.prog 33 ⟨.struct [(0, 1), (1, 1)], 2, 32, true, [.int .i64 0, .slice none 0 0]⟩ := ⟨⟨_, Tryd.underlying33, rfl, fun i o s h => match i, h with
      | 0, h => by cases h; exact ⟨_, _, rfl, rfl, rfl, rfl, by decide⟩
      | 1, h => by cases h; exact ⟨_, _, rfl, rfl, rfl, rfl, by decide⟩
      | n + 2, h => by simp at h⟩, ⟨_, rfl, rfl, rfl, _, rfl, rfl⟩, rfl, ⟨_, _, rfl, rfl, rfl⟩⟩
theorem ty34 : TI.ok Tryd.prog 34 ⟨.struct [(0, 1), (1, 1)], 2, 32, true, [.int .i64 0, .slice none 0 0]⟩ := ⟨⟨_, Tryd.underlying34, rfl, fun i o s h => match i, h with
      | 0, h => by cases h; exact ⟨_, _, rfl, rfl, rfl, rfl, by decide⟩
      | 1, h => by cases h; exact ⟨_, _, rfl, rfl, rfl, rfl, by decide⟩
      | n + 2, h => by simp at h⟩, ⟨_, rfl, rfl, rfl, _, rfl, rfl⟩, rfl, ⟨_, _, rfl, rfl, rfl⟩⟩
theorem ty36 : TI.ok Tryd.prog 36 ⟨.other, 1, 8, false, [.nilFunc]⟩ := ⟨by show (_ : Option TypeDesc).isSome = true; rw [Tryd.underlying36]; rfl, ⟨_, rfl, rfl, rfl, _, rfl, rfl⟩, rfl, ⟨_, _, rfl, rfl, rfl⟩⟩
theorem ty37 : TI.ok Tryd.prog 37 ⟨.other, 1, 8, false, [.nilFunc]⟩ := ⟨by show (_ : Option TypeDesc).isSome = true; rw [Tryd.underlying37]; rfl, ⟨_, rfl, rfl, rfl, _, rfl, rfl⟩, rfl, ⟨_, _, rfl, rfl, rfl⟩⟩
theorem ty38 : TI.ok Tryd.prog 38 ⟨.other, 1, 8, false, [.nilFunc]⟩ := ⟨by show (_ : Option TypeDesc).isSome = true; rw [Tryd.underlying38]; rfl, ⟨_, rfl, rfl, rfl, _, rfl, rfl⟩, rfl, ⟨_, _, rfl, rfl, rfl⟩⟩
theorem ty39 : TI.ok Tryd.prog 39 ⟨.other, 1, 8, false, [.nilFunc]⟩ := ⟨by show (_ : Option TypeDesc).isSome = true; rw [Tryd.underlying39]; rfl, ⟨_, rfl, rfl, rfl, _, rfl, rfl⟩, rfl, ⟨_, _, rfl, rfl, rfl⟩⟩
theorem ty40 : TI.ok Tryd.prog 40 ⟨.other, 1, 8, false, [.nilFunc]⟩ := ⟨by show (_ : Option TypeDesc).isSome = true; rw [Tryd.underlying40]; rfl, ⟨_, rfl, rfl, rfl, _, rfl, rfl⟩, rfl, ⟨_, _, rfl, rfl, rfl⟩⟩
theorem ty41 : TI.ok Tryd.prog 41 ⟨.other, 1, 8, false, [.nilFunc]⟩ := ⟨by show (_ : Option TypeDesc).isSome = true; rw [Tryd.underlying41]; rfl, ⟨_, rfl, rfl, rfl, _, rfl, rfl⟩, rfl, ⟨_, _, rfl, rfl, rfl⟩⟩
theorem ty42 : TI.ok Tryd.prog 42 ⟨.slice 26, 1, 24, false, [.slice none 0 0]⟩ := ⟨Tryd.underlying42, ⟨_, rfl, rfl, rfl, _, rfl, rfl⟩, rfl, ⟨_, _, rfl, rfl, rfl⟩⟩
theorem ty43 : TI.ok Tryd.prog 43 ⟨.struct [(0, 1), (1, 1)], 2, 32, true, [.int .i64 0, .slice none 0 0]⟩ := ⟨⟨_, Tryd.underlying43, rfl, fun i o s h => match i, h with
      | 0, h => by cases h; exact ⟨_, _, rfl, rfl, rfl, rfl, by decide⟩
      | 1, h => by cases h; exact ⟨_, _, rfl, rfl, rfl, rfl, by decide⟩
      | n + 2, h => by simp at h⟩, ⟨_, rfl, rfl, rfl, _, rfl, rfl⟩, rfl, ⟨_, _, rfl, rfl, rfl⟩⟩
theorem ty44 : TI.ok Tryd.prog 44 ⟨.struct [(0, 1), (1, 1)], 2, 32, true, [.int .i64 0, .slice none 0 0]⟩ := ⟨⟨_, Tryd.underlying44, rfl, fun i o s h => match i, h with
      | 0, h => by cases h; exact ⟨_, _, rfl, rfl, rfl, rfl, by decide⟩
      | 1, h => by cases h; exact ⟨_, _, rfl, rfl, rfl, rfl, by decide⟩
      | n + 2, h => by simp at h⟩, ⟨_, rfl, rfl, rfl, _, rfl, rfl⟩, rfl, ⟨_, _, rfl, rfl, rfl⟩⟩
theorem ty45 : TI.ok Tryd.prog 45 ⟨.other, 1, 8, false, [.nilFunc]⟩ := ⟨by show (_ : Option TypeDesc).isSome = true; rw [Tryd.underlying45]; rfl, ⟨_, rfl, rfl, rfl, _, rfl, rfl⟩, rfl, ⟨_, _, rfl, rfl, rfl⟩⟩
theorem ty46 : TI.ok Tryd.prog 46 ⟨.other, 1, 8, false, [.nilFunc]⟩ := ⟨by show (_ : Option TypeDesc).isSome = true; rw [Tryd.underlying46]; rfl, ⟨_, rfl, rfl, rfl, _, rfl, rfl⟩, rfl, ⟨_, _, rfl, rfl, rfl⟩⟩
theorem ty47 : TI.ok Tryd.prog 47 ⟨.other, 1, 8, false, [.nilFunc]⟩ := ⟨by show (_ : Option TypeDesc).isSome = true; rw [Tryd.underlying47]; rfl, ⟨_, rfl, rfl, rfl, _, rfl, rfl⟩, rfl, ⟨_, _, rfl, rfl, rfl⟩⟩
theorem ty48 : TI.ok Tryd.prog 48 ⟨.other, 1, 8, false, [.nilFunc]⟩ := ⟨by show (_ : Option TypeDesc).isSome = true; rw [Tryd.underlying48]; rfl, ⟨_, rfl, rfl, rfl, _, rfl, rfl⟩, rfl, ⟨_, _, rfl, rfl, rfl⟩⟩
theorem ty49 : TI.ok Tryd.prog 49 ⟨.other, 1, 8, false, [.nilFunc]⟩ := ⟨by show (_ : Option TypeDesc).isSome = true; rw [Tryd.underlying49]; rfl, ⟨_, rfl, rfl, rfl, _, rfl, rfl⟩, rfl, ⟨_, _, rfl, rfl, rfl⟩⟩
theorem ty50 : TI.ok Tryd.prog 50 ⟨.struct [(0, 1), (1, 1), (2, 1)], 3, 3, true, [.bool false, .bool false, .bool false]⟩ := ⟨⟨_, Tryd.underlying50, rfl, fun i o s h => match i, h with
      | 0, h => by cases h; exact ⟨_, _, rfl, rfl, rfl, rfl, by decide⟩
      | 1, h => by cases h; exact ⟨_, _, rfl, rfl, rfl, rfl, by decide⟩
      | 2, h => by cases h; exact ⟨_, _, rfl, rfl, rfl, rfl, by decide⟩
      | n + 3, h => by simp at h⟩, ⟨_, rfl, rfl, rfl, _, rfl, rfl⟩, rfl, ⟨_, _, rfl, rfl, rfl⟩⟩
theorem ty51 : TI.ok Tryd.prog 51 ⟨.struct [(0, 1), (1, 1), (2, 1)], 3, 3, true, [.bool false, .bool false, .bool false]⟩ := ⟨⟨_, Tryd.underlying51, rfl, fun i o s h => match i, h with
      | 0, h => by cases h; exact ⟨_, _, rfl, rfl, rfl, rfl, by decide⟩
      | 1, h => by cases h; exact ⟨_, _, rfl, rfl, rfl, rfl, by decide⟩
      | 2, h => by cases h; exact ⟨_, _, rfl, rfl, rfl, rfl, by decide⟩
      | n + 3, h => by simp at h⟩, ⟨_, rfl, rfl, rfl, _, rfl, rfl⟩, rfl, ⟨_, _, rfl, rfl, rfl⟩⟩
theorem ty52 : TI.ok Tryd.prog 52 ⟨.struct [(0, 1), (1, 1)], 2, 16, true, [.int .i64 0, .int .i64 0]⟩ := ⟨⟨_, Tryd.underlying52, rfl, fun i o s h => match i, h with
      | 0, h => by cases h; exact ⟨_, _, rfl, rfl, rfl, rfl, by decide⟩
      | 1, h => by cases h; exact ⟨_, _, rfl, rfl, rfl, rfl, by decide⟩
      | n + 2, h => by simp at h⟩, ⟨_, rfl, rfl, rfl, _, rfl, rfl⟩, rfl, ⟨_, _, rfl, rfl, rfl⟩⟩
theorem ty53 : TI.ok Tryd.prog 53 ⟨.struct [(0, 1), (1, 1)], 2, 16, true, [.int .i64 0, .int .i64 0]⟩ := ⟨⟨_, Tryd.underlying53, rfl, fun i o s h => match i, h with
      | 0, h => by cases h; exact ⟨_, _, rfl, rfl, rfl, rfl, by decide⟩
      | 1, h => by cases h; exact ⟨_, _, rfl, rfl, rfl, rfl, by decide⟩
      | n + 2, h => by simp at h⟩, ⟨_, rfl, rfl, rfl, _, rfl, rfl⟩, rfl, ⟨_, _, rfl, rfl, rfl⟩⟩
theorem ty54 : TI.ok Tryd.prog 54 ⟨.slice 53, 1, 24, false, [.slice none 0 0]⟩ := ⟨Tryd.underlying54, ⟨_, rfl, rfl, rfl, _, rfl, rfl⟩, rfl, ⟨_, _, rfl, rfl, rfl⟩⟩
theorem ty56 : TI.ok Tryd.prog 56 ⟨.other, 1, 8, false, [.nilFunc]⟩ := ⟨by show (_ : Option TypeDesc).isSome = true; rw [Tryd.underlying56]; rfl, ⟨_, rfl, rfl, rfl, _, rfl, rfl⟩, rfl, ⟨_, _, rfl, rfl, rfl⟩⟩
theorem ty57 : TI.ok Tryd.prog 57 ⟨.other, 1, 8, false, [.nilFunc]⟩ := ⟨by show (_ : Option TypeDesc).isSome = true; rw [Tryd.underlying57]; rfl, ⟨_, rfl, rfl, rfl, _, rfl, rfl⟩, rfl, ⟨_, _, rfl, rfl, rfl⟩⟩
theorem ty58 : TI.ok Tryd.prog 58 ⟨.other, 1, 8, false, [.nilFunc]⟩ := ⟨by show (_ : Option TypeDesc).isSome = true; rw [Tryd.underlying58]; rfl, ⟨_, rfl, rfl, rfl, _, rfl, rfl⟩, rfl, ⟨_, _, rfl, rfl, rfl⟩⟩
theorem ty59 : TI.ok Tryd.prog 59 ⟨.other, 1, 8, false, [.nilFunc]⟩ := ⟨by show (_ : Option TypeDesc).isSome = true; rw [Tryd.underlying59]; rfl, ⟨_, rfl, rfl, rfl, _, rfl, rfl⟩, rfl, ⟨_, _, rfl, rfl, rfl⟩⟩
theorem ty60 : TI.ok Tryd.prog 60 ⟨.other, 1, 8, false, [.nilFunc]⟩ := ⟨by show (_ : Option TypeDesc).isSome = true; rw [Tryd.underlying60]; rfl, ⟨_, rfl, rfl, rfl, _, rfl, rfl⟩, rfl, ⟨_, _, rfl, rfl, rfl⟩⟩
theorem ty61 : TI.ok Tryd.prog 61 ⟨.other, 1, 8, false, [.nilFunc]⟩ := ⟨by show (_ : Option TypeDesc).isSome = true; rw [Tryd.underlying61]; rfl, ⟨_, rfl, rfl, rfl, _, rfl, rfl⟩, rfl, ⟨_, _, rfl, rfl, rfl⟩⟩
theorem ty62 : TI.ok Tryd.prog 62 ⟨.other, 1, 8, false, [.nilFunc]⟩ := ⟨by show (_ : Option TypeDesc).isSome = true; rw [Tryd.underlying62]; rfl, ⟨_, rfl, rfl, rfl, _, rfl, rfl⟩, rfl, ⟨_, _, rfl, rfl, rfl⟩⟩
theorem ty63 : TI.ok Tryd.prog 63 ⟨.other, 1, 8, false, [.nilFunc]⟩ := ⟨by show (_ : Option TypeDesc).isSome = true; rw [Tryd.underlying63]; rfl, ⟨_, rfl, rfl, rfl, _, rfl, rfl⟩, rfl, ⟨_, _, rfl, rfl, rfl⟩⟩
theorem ty64 : TI.ok Tryd.prog 64 ⟨.other, 1, 8, false, [.nilFunc]⟩ := ⟨by show (_ : Option TypeDesc).isSome = true; rw [Tryd.underlying64]; rfl, ⟨_, rfl, rfl, rfl, _, rfl, rfl⟩, rfl, ⟨_, _, rfl, rfl, rfl⟩⟩
theorem ty66 : TI.ok Tryd.prog 66 ⟨.other, 1, 8, false, [.nilFunc]⟩ := ⟨by show (_ : Option TypeDesc).isSome = true; rw [Tryd.underlying66]; rfl, ⟨_, rfl, rfl, rfl, _, rfl, rfl⟩, rfl, ⟨_, _, rfl, rfl, rfl⟩⟩
theorem ty67 : TI.ok Tryd.prog 67 ⟨.other, 1, 8, false, [.nilFunc]⟩ := ⟨by show (_ : Option TypeDesc).isSome = true; rw [Tryd.underlying67]; rfl, ⟨_, rfl, rfl, rfl, _, rfl, rfl⟩, rfl, ⟨_, _, rfl, rfl, rfl⟩⟩
theorem ty69 : TI.ok Tryd.prog 69 ⟨.other, 1, 8, false, [.nilFunc]⟩ := ⟨by show (_ : Option TypeDesc).isSome = true; rw [Tryd.underlying69]; rfl, ⟨_, rfl, rfl, rfl, _, rfl, rfl⟩, rfl, ⟨_, _, rfl, rfl, rfl⟩⟩
theorem ty70 : TI.ok Tryd.prog 70 ⟨.other, 1, 8, false, [.nilFunc]⟩ := ⟨by show (_ : Option TypeDesc).isSome = true; rw [Tryd.underlying70]; rfl, ⟨_, rfl, rfl, rfl, _, rfl, rfl⟩, rfl, ⟨_, _, rfl, rfl, rfl⟩⟩
theorem ty71 : TI.ok Tryd.prog 71 ⟨.other, 1, 8, false, [.nilFunc]⟩ := ⟨by show (_ : Option TypeDesc).isSome = true; rw [Tryd.underlying71]; rfl, ⟨_, rfl, rfl, rfl, _, rfl, rfl⟩, rfl, ⟨_, _, rfl, rfl, rfl⟩⟩
theorem ty72 : TI.ok Tryd.prog 72 ⟨.other, 1, 8, false, [.nilFunc]⟩ := ⟨by show (_ : Option TypeDesc).isSome = true; rw [Tryd.underlying72]; rfl, ⟨_, rfl, rfl, rfl, _, rfl, rfl⟩, rfl, ⟨_, _, rfl, rfl, rfl⟩⟩
theorem ty73 : TI.ok Tryd.prog 73 ⟨.other, 1, 8, false, [.nilFunc]⟩ := ⟨by show (_ : Option TypeDesc).isSome = true; rw [Tryd.underlying73]; rfl, ⟨_, rfl, rfl, rfl, _, rfl, rfl⟩, rfl, ⟨_, _, rfl, rfl, rfl⟩⟩
theorem ty74 : TI.ok Tryd.prog 74 ⟨.slice 9, 1, 24, false, [.slice none 0 0]⟩ := ⟨Tryd.underlying74, ⟨_, rfl, rfl, rfl, _, rfl, rfl⟩, rfl, ⟨_, _, rfl, rfl, rfl⟩⟩
theorem ty76 : TI.ok Tryd.prog 76 ⟨.other, 1, 8, false, [.nilFunc]⟩ := ⟨by show (_ : Option TypeDesc).isSome = true; rw [Tryd.underlying76]; rfl, ⟨_, rfl, rfl, rfl, _, rfl, rfl⟩, rfl, ⟨_, _, rfl, rfl, rfl⟩⟩
theorem ty77 : TI.ok Tryd.prog 77 ⟨.other, 1, 8, false, [.nilFunc]⟩ := ⟨by show (_ : Option TypeDesc).isSome = true; rw [Tryd.underlying77]; rfl, ⟨_, rfl, rfl, rfl, _, rfl, rfl⟩, rfl, ⟨_, _, rfl, rfl, rfl⟩⟩
theorem ty78 : TI.ok Tryd.prog 78 ⟨.other, 1, 8, false, [.nilFunc]⟩ := ⟨by show (_ : Option TypeDesc).isSome = true; rw [Tryd.underlying78]; rfl, ⟨_, rfl, rfl, rfl, _, rfl, rfl⟩, rfl, ⟨_, _, rfl, rfl, rfl⟩⟩
theorem ty79 : TI.ok Tryd.prog 79 ⟨.other, 1, 8, false, [.nilFunc]⟩ := ⟨by show (_ : Option TypeDesc).isSome = true; rw [Tryd.underlying79]; rfl, ⟨_, rfl, rfl, rfl, _, rfl, rfl⟩, rfl, ⟨_, _, rfl, rfl, rfl⟩⟩
theorem ty80 : TI.ok Tryd.prog 80 ⟨.other, 1, 8, false, [.nilFunc]⟩ := ⟨by show (_ : Option TypeDesc).isSome = true; rw [Tryd.underlying80]; rfl, ⟨_, rfl, rfl, rfl, _, rfl, rfl⟩, rfl, ⟨_, _, rfl, rfl, rfl⟩⟩
theorem ty81 : TI.ok Tryd.prog 81 ⟨.other, 1, 8, false, [.nilFunc]⟩ := ⟨by show (_ : Option TypeDesc).isSome = true; rw [Tryd.underlying81]; rfl, ⟨_, rfl, rfl, rfl, _, rfl, rfl⟩, rfl, ⟨_, _, rfl, rfl, rfl⟩⟩
theorem ty82 : TI.ok Tryd.prog 82 ⟨.other, 1, 8, false, [.nilFunc]⟩ := ⟨by show (_ : Option TypeDesc).isSome = true; rw [Tryd.underlying82]; rfl, ⟨_, rfl, rfl, rfl, _, rfl, rfl⟩, rfl, ⟨_, _, rfl, rfl, rfl⟩⟩
theorem ty83 : TI.ok Tryd.prog 83 ⟨.other, 1, 8, false, [.nilFunc]⟩ := ⟨by show (_ : Option TypeDesc).isSome = true; rw [Tryd.underlying83]; rfl, ⟨_, rfl, rfl, rfl, _, rfl, rfl⟩, rfl, ⟨_, _, rfl, rfl, rfl⟩⟩
theorem ty84 : TI.ok Tryd.prog 84 ⟨.other, 1, 8, false, [.nilFunc]⟩ := ⟨by show (_ : Option TypeDesc).isSome = true; rw [Tryd.underlying84]; rfl, ⟨_, rfl, rfl, rfl, _, rfl, rfl⟩, rfl, ⟨_, _, rfl, rfl, rfl⟩⟩
theorem ty85 : TI.ok Tryd.prog 85 ⟨.other, 1, 8, false, [.nilFunc]⟩ := ⟨by show (_ : Option TypeDesc).isSome = true; rw [Tryd.underlying85]; rfl, ⟨_, rfl, rfl, rfl, _, rfl, rfl⟩, rfl, ⟨_, _, rfl, rfl, rfl⟩⟩
theorem ty86 : TI.ok Tryd.prog 86 ⟨.other, 1, 8, false, [.nilFunc]⟩ := ⟨by show (_ : Option TypeDesc).isSome = true; rw [Tryd.underlying86]; rfl, ⟨_, rfl, rfl, rfl, _, rfl, rfl⟩, rfl, ⟨_, _, rfl, rfl, rfl⟩⟩
theorem ty87 : TI.ok Tryd.prog 87 ⟨.other, 1, 8, false, [.nilFunc]⟩ := ⟨by show (_ : Option TypeDesc).isSome = true; rw [Tryd.underlying87]; rfl, ⟨_, rfl, rfl, rfl, _, rfl, rfl⟩, rfl, ⟨_, _, rfl, rfl, rfl⟩⟩
theorem ty88 : TI.ok Tryd.prog 88 ⟨.struct [(0, 1), (1, 1)], 2, 24, true, [.string ⟨#[]⟩, .int .i64 0]⟩ := ⟨⟨_, Tryd.underlying88, rfl, fun i o s h => match i, h with
      | 0, h => by cases h; exact ⟨_, _, rfl, rfl, rfl, rfl, by decide⟩
      | 1, h => by cases h; exact ⟨_, _, rfl, rfl, rfl, rfl, by decide⟩
      | n + 2, h => by simp at h⟩, ⟨_, rfl, rfl, rfl, _, rfl, rfl⟩, rfl, ⟨_, _, rfl, rfl, rfl⟩⟩
theorem ty89 : TI.ok Tryd.prog 89 ⟨.struct [(0, 1), (1, 1)], 2, 24, true, [.string ⟨#[]⟩, .int .i64 0]⟩ := ⟨⟨_, Tryd.underlying89, rfl, fun i o s h => match i, h with
      | 0, h => by cases h; exact ⟨_, _, rfl, rfl, rfl, rfl, by decide⟩
      | 1, h => by cases h; exact ⟨_, _, rfl, rfl, rfl, rfl, by decide⟩
      | n + 2, h => by simp at h⟩, ⟨_, rfl, rfl, rfl, _, rfl, rfl⟩, rfl, ⟨_, _, rfl, rfl, rfl⟩⟩
theorem ty90 : TI.ok Tryd.prog 90 ⟨.other, 1, 8, false, [.nilFunc]⟩ := ⟨by show (_ : Option TypeDesc).isSome = true; rw [Tryd.underlying90]; rfl, ⟨_, rfl, rfl, rfl, _, rfl, rfl⟩, rfl, ⟨_, _, rfl, rfl, rfl⟩⟩
theorem ty91 : TI.ok Tryd.prog 91 ⟨.other, 1, 8, false, [.nilFunc]⟩ := ⟨by show (_ : Option TypeDesc).isSome = true; rw [Tryd.underlying91]; rfl, ⟨_, rfl, rfl, rfl, _, rfl, rfl⟩, rfl, ⟨_, _, rfl, rfl, rfl⟩⟩
theorem ty92 : TI.ok Tryd.prog 92 ⟨.other, 1, 8, false, [.nilFunc]⟩ := ⟨by show (_ : Option TypeDesc).isSome = true; rw [Tryd.underlying92]; rfl, ⟨_, rfl, rfl, rfl, _, rfl, rfl⟩, rfl, ⟨_, _, rfl, rfl, rfl⟩⟩
theorem ty93 : TI.ok Tryd.prog 93 ⟨.other, 1, 8, false, [.nilFunc]⟩ := ⟨by show (_ : Option TypeDesc).isSome = true; rw [Tryd.underlying93]; rfl, ⟨_, rfl, rfl, rfl, _, rfl, rfl⟩, rfl, ⟨_, _, rfl, rfl, rfl⟩⟩
theorem ty94 : TI.ok Tryd.prog 94 ⟨.other, 1, 8, false, [.nilFunc]⟩ := ⟨by show (_ : Option TypeDesc).isSome = true; rw [Tryd.underlying94]; rfl, ⟨_, rfl, rfl, rfl, _, rfl, rfl⟩, rfl, ⟨_, _, rfl, rfl, rfl⟩⟩
theorem ty95 : TI.ok Tryd.prog 95 ⟨.other, 1, 8, false, [.nilFunc]⟩ := ⟨by show (_ : Option TypeDesc).isSome = true; rw [Tryd.underlying95]; rfl, ⟨_, rfl, rfl, rfl, _, rfl, rfl⟩, rfl, ⟨_, _, rfl, rfl, rfl⟩⟩
theorem ty96 : TI.ok Tryd.prog 96 ⟨.other, 1, 8, false, [.nilFunc]⟩ := ⟨by show (_ : Option TypeDesc).isSome = true; rw [Tryd.underlying96]; rfl, ⟨_, rfl, rfl, rfl, _, rfl, rfl⟩, rfl, ⟨_, _, rfl, rfl, rfl⟩⟩
theorem ty98 : TI.ok Tryd.prog 98 ⟨.other, 1, 8, false, [.nilFunc]⟩ := ⟨by show (_ : Option TypeDesc).isSome = true; rw [Tryd.underlying98]; rfl, ⟨_, rfl, rfl, rfl, _, rfl, rfl⟩, rfl, ⟨_, _, rfl, rfl, rfl⟩⟩
theorem ty102 : TI.ok Tryd.prog 102 ⟨.other, 1, 8, false, [.nilFunc]⟩ := ⟨by show (_ : Option TypeDesc).isSome = true; rw [Tryd.underlying102]; rfl, ⟨_, rfl, rfl, rfl, _, rfl, rfl⟩, rfl, ⟨_, _, rfl, rfl, rfl⟩⟩
theorem ty103 : TI.ok Tryd.prog 103 ⟨.other, 1, 8, false, [.nilFunc]⟩ := ⟨by show (_ : Option TypeDesc).isSome = true; rw [Tryd.underlying103]; rfl, ⟨_, rfl, rfl, rfl, _, rfl, rfl⟩, rfl, ⟨_, _, rfl, rfl, rfl⟩⟩
theorem ty104 : TI.ok Tryd.prog 104 ⟨.other, 1, 8, false, [.nilFunc]⟩ := ⟨by show (_ : Option TypeDesc).isSome = true; rw [Tryd.underlying104]; rfl, ⟨_, rfl, rfl, rfl, _, rfl, rfl⟩, rfl, ⟨_, _, rfl, rfl, rfl⟩⟩
theorem ty105 : TI.ok Tryd.prog 105 ⟨.other, 1, 8, false, [.nilFunc]⟩ := ⟨by show (_ : Option TypeDesc).isSome = true; rw [Tryd.underlying105]; rfl, ⟨_, rfl, rfl, rfl, _, rfl, rfl⟩, rfl, ⟨_, _, rfl, rfl, rfl⟩⟩
theorem ty106 : TI.ok Tryd.prog 106 ⟨.slice 3, 1, 24, false, [.slice none 0 0]⟩ := ⟨Tryd.underlying106, ⟨_, rfl, rfl, rfl, _, rfl, rfl⟩, rfl, ⟨_, _, rfl, rfl, rfl⟩⟩
theorem ty107 : TI.ok Tryd.prog 107 ⟨.other, 1, 8, false, [.nilFunc]⟩ := ⟨by show (_ : Option TypeDesc).isSome = true; rw [Tryd.underlying107]; rfl, ⟨_, rfl, rfl, rfl, _, rfl, rfl⟩, rfl, ⟨_, _, rfl, rfl, rfl⟩⟩
theorem ty108 : TI.ok Tryd.prog 108 ⟨.other, 1, 8, false, [.nilFunc]⟩ := ⟨by show (_ : Option TypeDesc).isSome = true; rw [Tryd.underlying108]; rfl, ⟨_, rfl, rfl, rfl, _, rfl, rfl⟩, rfl, ⟨_, _, rfl, rfl, rfl⟩⟩
theorem ty109 : TI.ok Tryd.prog 109 ⟨.other, 1, 8, false, [.nilFunc]⟩ := ⟨by show (_ : Option TypeDesc).isSome = true; rw [Tryd.underlying109]; rfl, ⟨_, rfl, rfl, rfl, _, rfl, rfl⟩, rfl, ⟨_, _, rfl, rfl, rfl⟩⟩
theorem ty110 : TI.ok Tryd.prog 110 ⟨.other, 1, 8, false, [.nilFunc]⟩ := ⟨by show (_ : Option TypeDesc).isSome = true; rw [Tryd.underlying110]; rfl, ⟨_, rfl, rfl, rfl, _, rfl, rfl⟩, rfl, ⟨_, _, rfl, rfl, rfl⟩⟩
theorem ty112 : TI.ok Tryd.prog 112 ⟨.other, 1, 8, false, [.nilFunc]⟩ := ⟨by show (_ : Option TypeDesc).isSome = true; rw [Tryd.underlying112]; rfl, ⟨_, rfl, rfl, rfl, _, rfl, rfl⟩, rfl, ⟨_, _, rfl, rfl, rfl⟩⟩
theorem ty113 : TI.ok Tryd.prog 113 ⟨.other, 1, 8, false, [.nilFunc]⟩ := ⟨by show (_ : Option TypeDesc).isSome = true; rw [Tryd.underlying113]; rfl, ⟨_, rfl, rfl, rfl, _, rfl, rfl⟩, rfl, ⟨_, _, rfl, rfl, rfl⟩⟩
theorem ty114 : TI.ok Tryd.prog 114 ⟨.other, 1, 8, false, [.nilFunc]⟩ := ⟨by show (_ : Option TypeDesc).isSome = true; rw [Tryd.underlying114]; rfl, ⟨_, rfl, rfl, rfl, _, rfl, rfl⟩, rfl, ⟨_, _, rfl, rfl, rfl⟩⟩
theorem ty115 : TI.ok Tryd.prog 115 ⟨.other, 1, 8, false, [.nilFunc]⟩ := ⟨by show (_ : Option TypeDesc).isSome = true; rw [Tryd.underlying115]; rfl, ⟨_, rfl, rfl, rfl, _, rfl, rfl⟩, rfl, ⟨_, _, rfl, rfl, rfl⟩⟩
theorem ty116 : TI.ok Tryd.prog 116 ⟨.other, 1, 8, false, [.nilFunc]⟩ := ⟨by show (_ : Option TypeDesc).isSome = true; rw [Tryd.underlying116]; rfl, ⟨_, rfl, rfl, rfl, _, rfl, rfl⟩, rfl, ⟨_, _, rfl, rfl, rfl⟩⟩
theorem ty117 : TI.ok Tryd.prog 117 ⟨.other, 1, 8, false, [.nilFunc]⟩ := ⟨by show (_ : Option TypeDesc).isSome = true; rw [Tryd.underlying117]; rfl, ⟨_, rfl, rfl, rfl, _, rfl, rfl⟩, rfl, ⟨_, _, rfl, rfl, rfl⟩⟩
theorem ty118 : TI.ok Tryd.prog 118 ⟨.other, 1, 8, false, [.nilFunc]⟩ := ⟨by show (_ : Option TypeDesc).isSome = true; rw [Tryd.underlying118]; rfl, ⟨_, rfl, rfl, rfl, _, rfl, rfl⟩, rfl, ⟨_, _, rfl, rfl, rfl⟩⟩
theorem ty119 : TI.ok Tryd.prog 119 ⟨.other, 1, 8, false, [.nilFunc]⟩ := ⟨by show (_ : Option TypeDesc).isSome = true; rw [Tryd.underlying119]; rfl, ⟨_, rfl, rfl, rfl, _, rfl, rfl⟩, rfl, ⟨_, _, rfl, rfl, rfl⟩⟩
theorem ty120 : TI.ok Tryd.prog 120 ⟨.other, 1, 8, false, [.nilFunc]⟩ := ⟨by show (_ : Option TypeDesc).isSome = true; rw [Tryd.underlying120]; rfl, ⟨_, rfl, rfl, rfl, _, rfl, rfl⟩, rfl, ⟨_, _, rfl, rfl, rfl⟩⟩
theorem ty121 : TI.ok Tryd.prog 121 ⟨.slice 5, 1, 24, false, [.slice none 0 0]⟩ := ⟨Tryd.underlying121, ⟨_, rfl, rfl, rfl, _, rfl, rfl⟩, rfl, ⟨_, _, rfl, rfl, rfl⟩⟩
theorem ty122 : TI.ok Tryd.prog 122 ⟨.other, 1, 8, false, [.nilFunc]⟩ := ⟨by show (_ : Option TypeDesc).isSome = true; rw [Tryd.underlying122]; rfl, ⟨_, rfl, rfl, rfl, _, rfl, rfl⟩, rfl, ⟨_, _, rfl, rfl, rfl⟩⟩
theorem ty123 : TI.ok Tryd.prog 123 ⟨.other, 1, 8, false, [.nilFunc]⟩ := ⟨by show (_ : Option TypeDesc).isSome = true; rw [Tryd.underlying123]; rfl, ⟨_, rfl, rfl, rfl, _, rfl, rfl⟩, rfl, ⟨_, _, rfl, rfl, rfl⟩⟩
theorem ty124 : TI.ok Tryd.prog 124 ⟨.other, 1, 8, false, [.nilFunc]⟩ := ⟨by show (_ : Option TypeDesc).isSome = true; rw [Tryd.underlying124]; rfl, ⟨_, rfl, rfl, rfl, _, rfl, rfl⟩, rfl, ⟨_, _, rfl, rfl, rfl⟩⟩
theorem ty125 : TI.ok Tryd.prog 125 ⟨.other, 1, 8, false, [.nilFunc]⟩ := ⟨by show (_ : Option TypeDesc).isSome = true; rw [Tryd.underlying125]; rfl, ⟨_, rfl, rfl, rfl, _, rfl, rfl⟩, rfl, ⟨_, _, rfl, rfl, rfl⟩⟩
theorem ty127 : TI.ok Tryd.prog 127 ⟨.other, 1, 8, false, [.nilFunc]⟩ := ⟨by show (_ : Option TypeDesc).isSome = true; rw [Tryd.underlying127]; rfl, ⟨_, rfl, rfl, rfl, _, rfl, rfl⟩, rfl, ⟨_, _, rfl, rfl, rfl⟩⟩
theorem ty128 : TI.ok Tryd.prog 128 ⟨.other, 1, 8, false, [.nilFunc]⟩ := ⟨by show (_ : Option TypeDesc).isSome = true; rw [Tryd.underlying128]; rfl, ⟨_, rfl, rfl, rfl, _, rfl, rfl⟩, rfl, ⟨_, _, rfl, rfl, rfl⟩⟩
theorem ty129 : TI.ok Tryd.prog 129 ⟨.other, 1, 8, false, [.nilFunc]⟩ := ⟨by show (_ : Option TypeDesc).isSome = true; rw [Tryd.underlying129]; rfl, ⟨_, rfl, rfl, rfl, _, rfl, rfl⟩, rfl, ⟨_, _, rfl, rfl, rfl⟩⟩
theorem ty130 : TI.ok Tryd.prog 130 ⟨.other, 1, 8, false, [.nilFunc]⟩ := ⟨by show (_ : Option TypeDesc).isSome = true; rw [Tryd.underlying130]; rfl, ⟨_, rfl, rfl, rfl, _, rfl, rfl⟩, rfl, ⟨_, _, rfl, rfl, rfl⟩⟩
theorem ty131 : TI.ok Tryd.prog 131 ⟨.map 9 4, 1, 8, false, [.map none]⟩ := ⟨Tryd.underlying131, ⟨_, rfl, rfl, rfl, _, rfl, rfl⟩, rfl, ⟨_, _, rfl, rfl, rfl⟩⟩
theorem ty132 : TI.ok Tryd.prog 132 ⟨.struct [(0, 1)], 1, 8, true, [.map none]⟩ := ⟨⟨_, Tryd.underlying132, rfl, fun i o s h => match i, h with
      | 0, h => by cases h; exact ⟨_, _, rfl, rfl, rfl, rfl, by decide⟩
      | n + 1, h => by simp at h⟩, ⟨_, rfl, rfl, rfl, _, rfl, rfl⟩, rfl, ⟨_, _, rfl, rfl, rfl⟩⟩
theorem ty133 : TI.ok Tryd.prog 133 ⟨.struct [(0, 1)], 1, 8, true, [.map none]⟩ := ⟨⟨_, Tryd.underlying133, rfl, fun i o s h => match i, h with
      | 0, h => by cases h; exact ⟨_, _, rfl, rfl, rfl, rfl, by decide⟩
      | n + 1, h => by simp at h⟩, ⟨_, rfl, rfl, rfl, _, rfl, rfl⟩, rfl, ⟨_, _, rfl, rfl, rfl⟩⟩
theorem ty134 : TI.ok Tryd.prog 134 ⟨.other, 1, 8, false, [.nilFunc]⟩ := ⟨by show (_ : Option TypeDesc).isSome = true; rw [Tryd.underlying134]; rfl, ⟨_, rfl, rfl, rfl, _, rfl, rfl⟩, rfl, ⟨_, _, rfl, rfl, rfl⟩⟩
theorem ty135 : TI.ok Tryd.prog 135 ⟨.other, 1, 8, false, [.nilFunc]⟩ := ⟨by show (_ : Option TypeDesc).isSome = true; rw [Tryd.underlying135]; rfl, ⟨_, rfl, rfl, rfl, _, rfl, rfl⟩, rfl, ⟨_, _, rfl, rfl, rfl⟩⟩
theorem ty136 : TI.ok Tryd.prog 136 ⟨.other, 1, 8, false, [.nilFunc]⟩ := ⟨by show (_ : Option TypeDesc).isSome = true; rw [Tryd.underlying136]; rfl, ⟨_, rfl, rfl, rfl, _, rfl, rfl⟩, rfl, ⟨_, _, rfl, rfl, rfl⟩⟩
theorem ty137 : TI.ok Tryd.prog 137 ⟨.other, 1, 8, false, [.nilFunc]⟩ := ⟨by show (_ : Option TypeDesc).isSome = true; rw [Tryd.underlying137]; rfl, ⟨_, rfl, rfl, rfl, _, rfl, rfl⟩, rfl, ⟨_, _, rfl, rfl, rfl⟩⟩
theorem ty138 : TI.ok Tryd.prog 138 ⟨.other, 1, 8, false, [.nilFunc]⟩ := ⟨by show (_ : Option TypeDesc).isSome = true; rw [Tryd.underlying138]; rfl, ⟨_, rfl, rfl, rfl, _, rfl, rfl⟩, rfl, ⟨_, _, rfl, rfl, rfl⟩⟩
theorem ty139 : TI.ok Tryd.prog 139 ⟨.other, 1, 8, false, [.nilFunc]⟩ := ⟨by show (_ : Option TypeDesc).isSome = true; rw [Tryd.underlying139]; rfl, ⟨_, rfl, rfl, rfl, _, rfl, rfl⟩, rfl, ⟨_, _, rfl, rfl, rfl⟩⟩
theorem ty140 : TI.ok Tryd.prog 140 ⟨.other, 1, 8, false, [.nilFunc]⟩ := ⟨by show (_ : Option TypeDesc).isSome = true; rw [Tryd.underlying140]; rfl, ⟨_, rfl, rfl, rfl, _, rfl, rfl⟩, rfl, ⟨_, _, rfl, rfl, rfl⟩⟩
theorem ty141 : TI.ok Tryd.prog 141 ⟨.other, 1, 8, false, [.nilFunc]⟩ := ⟨by show (_ : Option TypeDesc).isSome = true; rw [Tryd.underlying141]; rfl, ⟨_, rfl, rfl, rfl, _, rfl, rfl⟩, rfl, ⟨_, _, rfl, rfl, rfl⟩⟩
theorem ty142 : TI.ok Tryd.prog 142 ⟨.other, 1, 8, false, [.nilFunc]⟩ := ⟨by show (_ : Option TypeDesc).isSome = true; rw [Tryd.underlying142]; rfl, ⟨_, rfl, rfl, rfl, _, rfl, rfl⟩, rfl, ⟨_, _, rfl, rfl, rfl⟩⟩
theorem ty143 : TI.ok Tryd.prog 143 ⟨.other, 1, 8, false, [.nilFunc]⟩ := ⟨by show (_ : Option TypeDesc).isSome = true; rw [Tryd.underlying143]; rfl, ⟨_, rfl, rfl, rfl, _, rfl, rfl⟩, rfl, ⟨_, _, rfl, rfl, rfl⟩⟩
theorem ty144 : TI.ok Tryd.prog 144 ⟨.other, 1, 8, false, [.nilFunc]⟩ := ⟨by show (_ : Option TypeDesc).isSome = true; rw [Tryd.underlying144]; rfl, ⟨_, rfl, rfl, rfl, _, rfl, rfl⟩, rfl, ⟨_, _, rfl, rfl, rfl⟩⟩
theorem ty145 : TI.ok Tryd.prog 145 ⟨.other, 1, 8, false, [.nilFunc]⟩ := ⟨by show (_ : Option TypeDesc).isSome = true; rw [Tryd.underlying145]; rfl, ⟨_, rfl, rfl, rfl, _, rfl, rfl⟩, rfl, ⟨_, _, rfl, rfl, rfl⟩⟩
theorem ty146 : TI.ok Tryd.prog 146 ⟨.other, 1, 8, false, [.nilFunc]⟩ := ⟨by show (_ : Option TypeDesc).isSome = true; rw [Tryd.underlying146]; rfl, ⟨_, rfl, rfl, rfl, _, rfl, rfl⟩, rfl, ⟨_, _, rfl, rfl, rfl⟩⟩
theorem ty147 : TI.ok Tryd.prog 147 ⟨.other, 1, 8, false, [.nilFunc]⟩ := ⟨by show (_ : Option TypeDesc).isSome = true; rw [Tryd.underlying147]; rfl, ⟨_, rfl, rfl, rfl, _, rfl, rfl⟩, rfl, ⟨_, _, rfl, rfl, rfl⟩⟩
theorem ty148 : TI.ok Tryd.prog 148 ⟨.other, 1, 8, false, [.nilFunc]⟩ := ⟨by show (_ : Option TypeDesc).isSome = true; rw [Tryd.underlying148]; rfl, ⟨_, rfl, rfl, rfl, _, rfl, rfl⟩, rfl, ⟨_, _, rfl, rfl, rfl⟩⟩
theorem ty149 : TI.ok Tryd.prog 149 ⟨.slice 4, 1, 24, false, [.slice none 0 0]⟩ := ⟨Tryd.underlying149, ⟨_, rfl, rfl, rfl, _, rfl, rfl⟩, rfl, ⟨_, _, rfl, rfl, rfl⟩⟩
theorem ty150 : TI.ok Tryd.prog 150 ⟨.other, 1, 8, false, [.nilFunc]⟩ := ⟨by show (_ : Option TypeDesc).isSome = true; rw [Tryd.underlying150]; rfl, ⟨_, rfl, rfl, rfl, _, rfl, rfl⟩, rfl, ⟨_, _, rfl, rfl, rfl⟩⟩
theorem ty151 : TI.ok Tryd.prog 151 ⟨.other, 1, 8, false, [.nilFunc]⟩ := ⟨by show (_ : Option TypeDesc).isSome = true; rw [Tryd.underlying151]; rfl, ⟨_, rfl, rfl, rfl, _, rfl, rfl⟩, rfl, ⟨_, _, rfl, rfl, rfl⟩⟩
theorem ty152 : TI.ok Tryd.prog 152 ⟨.other, 1, 8, false, [.nilFunc]⟩ := ⟨by show (_ : Option TypeDesc).isSome = true; rw [Tryd.underlying152]; rfl, ⟨_, rfl, rfl, rfl, _, rfl, rfl⟩, rfl, ⟨_, _, rfl, rfl, rfl⟩⟩
theorem ty153 : TI.ok Tryd.prog 153 ⟨.other, 1, 8, false, [.nilFunc]⟩ := ⟨by show (_ : Option TypeDesc).isSome = true; rw [Tryd.underlying153]; rfl, ⟨_, rfl, rfl, rfl, _, rfl, rfl⟩, rfl, ⟨_, _, rfl, rfl, rfl⟩⟩
theorem ty154 : TI.ok Tryd.prog 154 ⟨.other, 1, 8, false, [.nilFunc]⟩ := ⟨by show (_ : Option TypeDesc).isSome = true; rw [Tryd.underlying154]; rfl, ⟨_, rfl, rfl, rfl, _, rfl, rfl⟩, rfl, ⟨_, _, rfl, rfl, rfl⟩⟩
theorem ty158 : TI.ok Tryd.prog 158 ⟨.other, 1, 8, false, [.nilFunc]⟩ := ⟨by show (_ : Option TypeDesc).isSome = true; rw [Tryd.underlying158]; rfl, ⟨_, rfl, rfl, rfl, _, rfl, rfl⟩, rfl, ⟨_, _, rfl, rfl, rfl⟩⟩
theorem ty159 : TI.ok Tryd.prog 159 ⟨.other, 1, 8, false, [.nilFunc]⟩ := ⟨by show (_ : Option TypeDesc).isSome = true; rw [Tryd.underlying159]; rfl, ⟨_, rfl, rfl, rfl, _, rfl, rfl⟩, rfl, ⟨_, _, rfl, rfl, rfl⟩⟩
theorem ty160 : TI.ok Tryd.prog 160 ⟨.other, 1, 8, false, [.pointer none]⟩ := ⟨by show (_ : Option TypeDesc).isSome = true; rw [Tryd.underlying160]; rfl, ⟨_, rfl, rfl, rfl, _, rfl, rfl⟩, rfl, ⟨_, _, rfl, rfl, rfl⟩⟩
theorem ty161 : TI.ok Tryd.prog 161 ⟨.other, 1, 8, false, [.nilFunc]⟩ := ⟨by show (_ : Option TypeDesc).isSome = true; rw [Tryd.underlying161]; rfl, ⟨_, rfl, rfl, rfl, _, rfl, rfl⟩, rfl, ⟨_, _, rfl, rfl, rfl⟩⟩
theorem ty162 : TI.ok Tryd.prog 162 ⟨.other, 1, 8, false, [.nilFunc]⟩ := ⟨by show (_ : Option TypeDesc).isSome = true; rw [Tryd.underlying162]; rfl, ⟨_, rfl, rfl, rfl, _, rfl, rfl⟩, rfl, ⟨_, _, rfl, rfl, rfl⟩⟩
theorem ty163 : TI.ok Tryd.prog 163 ⟨.other, 1, 8, false, [.nilFunc]⟩ := ⟨by show (_ : Option TypeDesc).isSome = true; rw [Tryd.underlying163]; rfl, ⟨_, rfl, rfl, rfl, _, rfl, rfl⟩, rfl, ⟨_, _, rfl, rfl, rfl⟩⟩
theorem ty164 : TI.ok Tryd.prog 164 ⟨.other, 1, 8, false, [.pointer none]⟩ := ⟨by show (_ : Option TypeDesc).isSome = true; rw [Tryd.underlying164]; rfl, ⟨_, rfl, rfl, rfl, _, rfl, rfl⟩, rfl, ⟨_, _, rfl, rfl, rfl⟩⟩
theorem ty165 : TI.ok Tryd.prog 165 ⟨.struct [(0, 1), (1, 1)], 2, 32, true, [.pointer none, .slice none 0 0]⟩ := ⟨⟨_, Tryd.underlying165, rfl, fun i o s h => match i, h with
      | 0, h => by cases h; exact ⟨_, _, rfl, rfl, rfl, rfl, by decide⟩
      | 1, h => by cases h; exact ⟨_, _, rfl, rfl, rfl, rfl, by decide⟩
      | n + 2, h => by simp at h⟩, ⟨_, rfl, rfl, rfl, _, rfl, rfl⟩, rfl, ⟨_, _, rfl, rfl, rfl⟩⟩
theorem ty166 : TI.ok Tryd.prog 166 ⟨.struct [(0, 1), (1, 1)], 2, 32, true, [.pointer none, .slice none 0 0]⟩ := ⟨⟨_, Tryd.underlying166, rfl, fun i o s h => match i, h with
      | 0, h => by cases h; exact ⟨_, _, rfl, rfl, rfl, rfl, by decide⟩
      | 1, h => by cases h; exact ⟨_, _, rfl, rfl, rfl, rfl, by decide⟩
      | n + 2, h => by simp at h⟩, ⟨_, rfl, rfl, rfl, _, rfl, rfl⟩, rfl, ⟨_, _, rfl, rfl, rfl⟩⟩
theorem ty167 : TI.ok Tryd.prog 167 ⟨.other, 1, 8, false, [.nilFunc]⟩ := ⟨by show (_ : Option TypeDesc).isSome = true; rw [Tryd.underlying167]; rfl, ⟨_, rfl, rfl, rfl, _, rfl, rfl⟩, rfl, ⟨_, _, rfl, rfl, rfl⟩⟩
theorem ty168 : TI.ok Tryd.prog 168 ⟨.other, 1, 8, false, [.nilFunc]⟩ := ⟨by show (_ : Option TypeDesc).isSome = true; rw [Tryd.underlying168]; rfl, ⟨_, rfl, rfl, rfl, _, rfl, rfl⟩, rfl, ⟨_, _, rfl, rfl, rfl⟩⟩
theorem ty169 : TI.ok Tryd.prog 169 ⟨.int .i64, 1, 8, false, [.int .i64 0]⟩ := ⟨Tryd.underlying169, ⟨_, rfl, rfl, rfl, _, rfl, rfl⟩, rfl, ⟨_, _, rfl, rfl, rfl⟩⟩
theorem ty171 : TI.ok Tryd.prog 171 ⟨.other, 1, 8, false, [.nilFunc]⟩ := ⟨by show (_ : Option TypeDesc).isSome = true; rw [Tryd.underlying171]; rfl, ⟨_, rfl, rfl, rfl, _, rfl, rfl⟩, rfl, ⟨_, _, rfl, rfl, rfl⟩⟩
theorem ty172 : TI.ok Tryd.prog 172 ⟨.other, 1, 8, false, [.pointer none]⟩ := ⟨by show (_ : Option TypeDesc).isSome = true; rw [Tryd.underlying172]; rfl, ⟨_, rfl, rfl, rfl, _, rfl, rfl⟩, rfl, ⟨_, _, rfl, rfl, rfl⟩⟩
theorem ty173 : TI.ok Tryd.prog 173 ⟨.other, 1, 8, false, [.nilFunc]⟩ := ⟨by show (_ : Option TypeDesc).isSome = true; rw [Tryd.underlying173]; rfl, ⟨_, rfl, rfl, rfl, _, rfl, rfl⟩, rfl, ⟨_, _, rfl, rfl, rfl⟩⟩
theorem ty174 : TI.ok Tryd.prog 174 ⟨.other, 1, 8, false, [.nilFunc]⟩ := ⟨by show (_ : Option TypeDesc).isSome = true; rw [Tryd.underlying174]; rfl, ⟨_, rfl, rfl, rfl, _, rfl, rfl⟩, rfl, ⟨_, _, rfl, rfl, rfl⟩⟩
theorem ty176 : TI.ok Tryd.prog 176 ⟨.other, 1, 8, false, [.nilFunc]⟩ := ⟨by show (_ : Option TypeDesc).isSome = true; rw [Tryd.underlying176]; rfl, ⟨_, rfl, rfl, rfl, _, rfl, rfl⟩, rfl, ⟨_, _, rfl, rfl, rfl⟩⟩
theorem ty177 : TI.ok Tryd.prog 177 ⟨.other, 1, 8, false, [.nilFunc]⟩ := ⟨by show (_ : Option TypeDesc).isSome = true; rw [Tryd.underlying177]; rfl, ⟨_, rfl, rfl, rfl, _, rfl, rfl⟩, rfl, ⟨_, _, rfl, rfl, rfl⟩⟩
theorem ty178 : TI.ok Tryd.prog 178 ⟨.other, 1, 8, false, [.nilFunc]⟩ := ⟨by show (_ : Option TypeDesc).isSome = true; rw [Tryd.underlying178]; rfl, ⟨_, rfl, rfl, rfl, _, rfl, rfl⟩, rfl, ⟨_, _, rfl, rfl, rfl⟩⟩
theorem ty179 : TI.ok Tryd.prog 179 ⟨.other, 1, 8, false, [.nilFunc]⟩ := ⟨by show (_ : Option TypeDesc).isSome = true; rw [Tryd.underlying179]; rfl, ⟨_, rfl, rfl, rfl, _, rfl, rfl⟩, rfl, ⟨_, _, rfl, rfl, rfl⟩⟩
theorem ty180 : TI.ok Tryd.prog 180 ⟨.other, 1, 8, false, [.pointer none]⟩ := ⟨by show (_ : Option TypeDesc).isSome = true; rw [Tryd.underlying180]; rfl, ⟨_, rfl, rfl, rfl, _, rfl, rfl⟩, rfl, ⟨_, _, rfl, rfl, rfl⟩⟩
theorem ty181 : TI.ok Tryd.prog 181 ⟨.struct [(0, 1), (1, 1)], 2, 48, true, [.slice none 0 0, .slice none 0 0]⟩ := ⟨⟨_, Tryd.underlying181, rfl, fun i o s h => match i, h with
      | 0, h => by cases h; exact ⟨_, _, rfl, rfl, rfl, rfl, by decide⟩
      | 1, h => by cases h; exact ⟨_, _, rfl, rfl, rfl, rfl, by decide⟩
      | n + 2, h => by simp at h⟩, ⟨_, rfl, rfl, rfl, _, rfl, rfl⟩, rfl, ⟨_, _, rfl, rfl, rfl⟩⟩
theorem ty182 : TI.ok Tryd.prog 182 ⟨.struct [(0, 1), (1, 1)], 2, 48, true, [.slice none 0 0, .slice none 0 0]⟩ := ⟨⟨_, Tryd.underlying182, rfl, fun i o s h => match i, h with
      | 0, h => by cases h; exact ⟨_, _, rfl, rfl, rfl, rfl, by decide⟩
      | 1, h => by cases h; exact ⟨_, _, rfl, rfl, rfl, rfl, by decide⟩
      | n + 2, h => by simp at h⟩, ⟨_, rfl, rfl, rfl, _, rfl, rfl⟩, rfl, ⟨_, _, rfl, rfl, rfl⟩⟩
theorem ty183 : TI.ok Tryd.prog 183 ⟨.other, 1, 8, false, [.nilFunc]⟩ := ⟨by show (_ : Option TypeDesc).isSome = true; rw [Tryd.underlying183]; rfl, ⟨_, rfl, rfl, rfl, _, rfl, rfl⟩, rfl, ⟨_, _, rfl, rfl, rfl⟩⟩
theorem ty184 : TI.ok Tryd.prog 184 ⟨.other, 1, 8, false, [.nilFunc]⟩ := ⟨by show (_ : Option TypeDesc).isSome = true; rw [Tryd.underlying184]; rfl, ⟨_, rfl, rfl, rfl, _, rfl, rfl⟩, rfl, ⟨_, _, rfl, rfl, rfl⟩⟩
theorem ty185 : TI.ok Tryd.prog 185 ⟨.other, 1, 8, false, [.nilFunc]⟩ := ⟨by show (_ : Option TypeDesc).isSome = true; rw [Tryd.underlying185]; rfl, ⟨_, rfl, rfl, rfl, _, rfl, rfl⟩, rfl, ⟨_, _, rfl, rfl, rfl⟩⟩
theorem ty186 : TI.ok Tryd.prog 186 ⟨.int .u64, 1, 8, false, [.int .u64 0]⟩ := ⟨Tryd.underlying186, ⟨_, rfl, rfl, rfl, _, rfl, rfl⟩, rfl, ⟨_, _, rfl, rfl, rfl⟩⟩
theorem ty187 : TI.ok Tryd.prog 187 ⟨.other, 1, 8, false, [.nilFunc]⟩ := ⟨by show (_ : Option TypeDesc).isSome = true; rw [Tryd.underlying187]; rfl, ⟨_, rfl, rfl, rfl, _, rfl, rfl⟩, rfl, ⟨_, _, rfl, rfl, rfl⟩⟩
theorem ty188 : TI.ok Tryd.prog 188 ⟨.other, 1, 8, false, [.nilFunc]⟩ := ⟨by show (_ : Option TypeDesc).isSome = true; rw [Tryd.underlying188]; rfl, ⟨_, rfl, rfl, rfl, _, rfl, rfl⟩, rfl, ⟨_, _, rfl, rfl, rfl⟩⟩
theorem ty189 : TI.ok Tryd.prog 189 ⟨.other, 1, 8, false, [.nilFunc]⟩ := ⟨by show (_ : Option TypeDesc).isSome = true; rw [Tryd.underlying189]; rfl, ⟨_, rfl, rfl, rfl, _, rfl, rfl⟩, rfl, ⟨_, _, rfl, rfl, rfl⟩⟩
theorem ty190 : TI.ok Tryd.prog 190 ⟨.other, 1, 8, false, [.pointer none]⟩ := ⟨by show (_ : Option TypeDesc).isSome = true; rw [Tryd.underlying190]; rfl, ⟨_, rfl, rfl, rfl, _, rfl, rfl⟩, rfl, ⟨_, _, rfl, rfl, rfl⟩⟩
theorem ty191 : TI.ok Tryd.prog 191 ⟨.other, 1, 8, false, [.nilFunc]⟩ := ⟨by show (_ : Option TypeDesc).isSome = true; rw [Tryd.underlying191]; rfl, ⟨_, rfl, rfl, rfl, _, rfl, rfl⟩, rfl, ⟨_, _, rfl, rfl, rfl⟩⟩
theorem ty192 : TI.ok Tryd.prog 192 ⟨.int .u64, 1, 8, false, [.int .u64 0]⟩ := ⟨Tryd.underlying192, ⟨_, rfl, rfl, rfl, _, rfl, rfl⟩, rfl, ⟨_, _, rfl, rfl, rfl⟩⟩
theorem ty194 : TI.ok Tryd.prog 194 ⟨.other, 1, 8, false, [.nilFunc]⟩ := ⟨by show (_ : Option TypeDesc).isSome = true; rw [Tryd.underlying194]; rfl, ⟨_, rfl, rfl, rfl, _, rfl, rfl⟩, rfl, ⟨_, _, rfl, rfl, rfl⟩⟩
theorem ty195 : TI.ok Tryd.prog 195 ⟨.struct [(0, 1), (1, 1), (2, 1)], 3, 48, true, [.string ⟨#[]⟩, .string ⟨#[]⟩, .nilIface]⟩ := ⟨⟨_, Tryd.underlying195, rfl, fun i o s h => match i, h with
      | 0, h => by cases h; exact ⟨_, _, rfl, rfl, rfl, rfl, by decide⟩
      | 1, h => by cases h; exact ⟨_, _, rfl, rfl, rfl, rfl, by decide⟩
      | 2, h => by cases h; exact ⟨_, _, rfl, rfl, rfl, rfl, by decide⟩
      | n + 3, h => by simp at h⟩, ⟨_, rfl, rfl, rfl, _, rfl, rfl⟩, rfl, ⟨_, _, rfl, rfl, rfl⟩⟩
theorem ty196 : TI.ok Tryd.prog 196 ⟨.struct [(0, 1), (1, 1), (2, 1)], 3, 48, true, [.string ⟨#[]⟩, .string ⟨#[]⟩, .nilIface]⟩ := ⟨⟨_, Tryd.underlying196, rfl, fun i o s h => match i, h with
      | 0, h => by cases h; exact ⟨_, _, rfl, rfl, rfl, rfl, by decide⟩
      | 1, h => by cases h; exact ⟨_, _, rfl, rfl, rfl, rfl, by decide⟩
      | 2, h => by cases h; exact ⟨_, _, rfl, rfl, rfl, rfl, by decide⟩
      | n + 3, h => by simp at h⟩, ⟨_, rfl, rfl, rfl, _, rfl, rfl⟩, rfl, ⟨_, _, rfl, rfl, rfl⟩⟩
theorem ty197 : TI.ok Tryd.prog 197 ⟨.other, 1, 8, false, [.nilFunc]⟩ := ⟨by show (_ : Option TypeDesc).isSome = true; rw [Tryd.underlying197]; rfl, ⟨_, rfl, rfl, rfl, _, rfl, rfl⟩, rfl, ⟨_, _, rfl, rfl, rfl⟩⟩
theorem ty198 : TI.ok Tryd.prog 198 ⟨.other, 1, 8, false, [.nilFunc]⟩ := ⟨by show (_ : Option TypeDesc).isSome = true; rw [Tryd.underlying198]; rfl, ⟨_, rfl, rfl, rfl, _, rfl, rfl⟩, rfl, ⟨_, _, rfl, rfl, rfl⟩⟩
theorem ty199 : TI.ok Tryd.prog 199 ⟨.other, 1, 8, false, [.nilFunc]⟩ := ⟨by show (_ : Option TypeDesc).isSome = true; rw [Tryd.underlying199]; rfl, ⟨_, rfl, rfl, rfl, _, rfl, rfl⟩, rfl, ⟨_, _, rfl, rfl, rfl⟩⟩
theorem ty200 : TI.ok Tryd.prog 200 ⟨.other, 1, 8, false, [.nilFunc]⟩ := ⟨by show (_ : Option TypeDesc).isSome = true; rw [Tryd.underlying200]; rfl, ⟨_, rfl, rfl, rfl, _, rfl, rfl⟩, rfl, ⟨_, _, rfl, rfl, rfl⟩⟩
theorem ty201 : TI.ok Tryd.prog 201 ⟨.int .u32, 1, 4, false, [.int .u32 0]⟩ := ⟨Tryd.underlying201, ⟨_, rfl, rfl, rfl, _, rfl, rfl⟩, rfl, ⟨_, _, rfl, rfl, rfl⟩⟩
theorem ty203 : TI.ok Tryd.prog 203 ⟨.other, 1, 8, false, [.nilFunc]⟩ := ⟨by show (_ : Option TypeDesc).isSome = true; rw [Tryd.underlying203]; rfl, ⟨_, rfl, rfl, rfl, _, rfl, rfl⟩, rfl, ⟨_, _, rfl, rfl, rfl⟩⟩
theorem ty204 : TI.ok Tryd.prog 204 ⟨.other, 1, 8, false, [.nilFunc]⟩ := ⟨by show (_ : Option TypeDesc).isSome = true; rw [Tryd.underlying204]; rfl, ⟨_, rfl, rfl, rfl, _, rfl, rfl⟩, rfl, ⟨_, _, rfl, rfl, rfl⟩⟩
theorem ty206 : TI.ok Tryd.prog 206 ⟨.other, 1, 8, false, [.nilFunc]⟩ := ⟨by show (_ : Option TypeDesc).isSome = true; rw [Tryd.underlying206]; rfl, ⟨_, rfl, rfl, rfl, _, rfl, rfl⟩, rfl, ⟨_, _, rfl, rfl, rfl⟩⟩
theorem ty207 : TI.ok Tryd.prog 207 ⟨.other, 1, 8, false, [.nilFunc]⟩ := ⟨by show (_ : Option TypeDesc).isSome = true; rw [Tryd.underlying207]; rfl, ⟨_, rfl, rfl, rfl, _, rfl, rfl⟩, rfl, ⟨_, _, rfl, rfl, rfl⟩⟩
theorem ty209 : TI.ok Tryd.prog 209 ⟨.other, 1, 8, false, [.nilFunc]⟩ := ⟨by show (_ : Option TypeDesc).isSome = true; rw [Tryd.underlying209]; rfl, ⟨_, rfl, rfl, rfl, _, rfl, rfl⟩, rfl, ⟨_, _, rfl, rfl, rfl⟩⟩
theorem ty210 : TI.ok Tryd.prog 210 ⟨.other, 1, 8, false, [.nilFunc]⟩ := ⟨by show (_ : Option TypeDesc).isSome = true; rw [Tryd.underlying210]; rfl, ⟨_, rfl, rfl, rfl, _, rfl, rfl⟩, rfl, ⟨_, _, rfl, rfl, rfl⟩⟩
theorem ty212 : TI.ok Tryd.prog 212 ⟨.other, 1, 8, false, [.nilFunc]⟩ := ⟨by show (_ : Option TypeDesc).isSome = true; rw [Tryd.underlying212]; rfl, ⟨_, rfl, rfl, rfl, _, rfl, rfl⟩, rfl, ⟨_, _, rfl, rfl, rfl⟩⟩
theorem ty213 : TI.ok Tryd.prog 213 ⟨.other, 1, 8, false, [.pointer none]⟩ := ⟨by show (_ : Option TypeDesc).isSome = true; rw [Tryd.underlying213]; rfl, ⟨_, rfl, rfl, rfl, _, rfl, rfl⟩, rfl, ⟨_, _, rfl, rfl, rfl⟩⟩
theorem ty214 : TI.ok Tryd.prog 214 ⟨.struct [(0, 1)], 1, 16, true, [.string ⟨#[]⟩]⟩ := ⟨⟨_, Tryd.underlying214, rfl, fun i o s h => match i, h with
      | 0, h => by cases h; exact ⟨_, _, rfl, rfl, rfl, rfl, by decide⟩
      | n + 1, h => by simp at h⟩, ⟨_, rfl, rfl, rfl, _, rfl, rfl⟩, rfl, ⟨_, _, rfl, rfl, rfl⟩⟩
theorem ty215 : TI.ok Tryd.prog 215 ⟨.struct [(0, 1)], 1, 16, true, [.string ⟨#[]⟩]⟩ := ⟨⟨_, Tryd.underlying215, rfl, fun i o s h => match i, h with
      | 0, h => by cases h; exact ⟨_, _, rfl, rfl, rfl, rfl, by decide⟩
      | n + 1, h => by simp at h⟩, ⟨_, rfl, rfl, rfl, _, rfl, rfl⟩, rfl, ⟨_, _, rfl, rfl, rfl⟩⟩
theorem ty217 : TI.ok Tryd.prog 217 ⟨.struct [(0, 1), (1, 1)], 2, 2, true, [.int .u8 0, .int .u8 0]⟩ := ⟨⟨_, Tryd.underlying217, rfl, fun i o s h => match i, h with
      | 0, h => by cases h; exact ⟨_, _, rfl, rfl, rfl, rfl, by decide⟩
      | 1, h => by cases h; exact ⟨_, _, rfl, rfl, rfl, rfl, by decide⟩
      | n + 2, h => by simp at h⟩, ⟨_, rfl, rfl, rfl, _, rfl, rfl⟩, rfl, ⟨_, _, rfl, rfl, rfl⟩⟩
theorem ty218 : TI.ok Tryd.prog 218 ⟨.struct [(0, 1), (1, 1)], 2, 2, true, [.int .u8 0, .int .u8 0]⟩ := ⟨⟨_, Tryd.underlying218, rfl, fun i o s h => match i, h with
      | 0, h => by cases h; exact ⟨_, _, rfl, rfl, rfl, rfl, by decide⟩
      | 1, h => by cases h; exact ⟨_, _, rfl, rfl, rfl, rfl, by decide⟩
      | n + 2, h => by simp at h⟩, ⟨_, rfl, rfl, rfl, _, rfl, rfl⟩, rfl, ⟨_, _, rfl, rfl, rfl⟩⟩
theorem ty220 : TI.ok Tryd.prog 220 ⟨.other, 1, 8, false, [.nilFunc]⟩ := ⟨by show (_ : Option TypeDesc).isSome = true; rw [Tryd.underlying220]; rfl, ⟨_, rfl, rfl, rfl, _, rfl, rfl⟩, rfl, ⟨_, _, rfl, rfl, rfl⟩⟩
theorem ty221 : TI.ok Tryd.prog 221 ⟨.other, 1, 8, false, [.nilFunc]⟩ := ⟨by show (_ : Option TypeDesc).isSome = true; rw [Tryd.underlying221]; rfl, ⟨_, rfl, rfl, rfl, _, rfl, rfl⟩, rfl, ⟨_, _, rfl, rfl, rfl⟩⟩
theorem ty224 : TI.ok Tryd.prog 224 ⟨.other, 1, 8, false, [.nilFunc]⟩ := ⟨by show (_ : Option TypeDesc).isSome = true; rw [Tryd.underlying224]; rfl, ⟨_, rfl, rfl, rfl, _, rfl, rfl⟩, rfl, ⟨_, _, rfl, rfl, rfl⟩⟩
theorem ty225 : TI.ok Tryd.prog 225 ⟨.other, 1, 8, false, [.nilFunc]⟩ := ⟨by show (_ : Option TypeDesc).isSome = true; rw [Tryd.underlying225]; rfl, ⟨_, rfl, rfl, rfl, _, rfl, rfl⟩, rfl, ⟨_, _, rfl, rfl, rfl⟩⟩
theorem ty228 : TI.ok Tryd.prog 228 ⟨.struct [(0, 1), (1, 1), (2, 1), (3, 1)], 4, 40, true, [.pointer none, .pointer none, .pointer none, .string ⟨#[]⟩]⟩ := ⟨⟨_, Tryd.underlying228, rfl, fun i o s h => match i, h with
      | 0, h => by cases h; exact ⟨_, _, rfl, rfl, rfl, rfl, by decide⟩
      | 1, h => by cases h; exact ⟨_, _, rfl, rfl, rfl, rfl, by decide⟩
      | 2, h => by cases h; exact ⟨_, _, rfl, rfl, rfl, rfl, by decide⟩
      | 3, h => by cases h; exact ⟨_, _, rfl, rfl, rfl, rfl, by decide⟩
      | n + 4, h => by simp at h⟩, ⟨_, rfl, rfl, rfl, _, rfl, rfl⟩, rfl, ⟨_, _, rfl, rfl, rfl⟩⟩
theorem ty229 : TI.ok Tryd.prog 229 ⟨.struct [(0, 1), (1, 1), (2, 1), (3, 1)], 4, 40, true, [.pointer none, .pointer none, .pointer none, .string ⟨#[]⟩]⟩ := ⟨⟨_, Tryd.underlying229, rfl, fun i o s h => match i, h with
      | 0, h => by cases h; exact ⟨_, _, rfl, rfl, rfl, rfl, by decide⟩
      | 1, h => by cases h; exact ⟨_, _, rfl, rfl, rfl, rfl, by decide⟩
      | 2, h => by cases h; exact ⟨_, _, rfl, rfl, rfl, rfl, by decide⟩
      | 3, h => by cases h; exact ⟨_, _, rfl, rfl, rfl, rfl, by decide⟩
      | n + 4, h => by simp at h⟩, ⟨_, rfl, rfl, rfl, _, rfl, rfl⟩, rfl, ⟨_, _, rfl, rfl, rfl⟩⟩
theorem ty233 : TI.ok Tryd.prog 233 ⟨.int .u8, 1, 1, false, [.int .u8 0]⟩ := ⟨Tryd.underlying233, ⟨_, rfl, rfl, rfl, _, rfl, rfl⟩, rfl, ⟨_, _, rfl, rfl, rfl⟩⟩
theorem ty234 : TI.ok Tryd.prog 234 ⟨.int .u8, 1, 1, false, [.int .u8 0]⟩ := ⟨Tryd.underlying234, ⟨_, rfl, rfl, rfl, _, rfl, rfl⟩, rfl, ⟨_, _, rfl, rfl, rfl⟩⟩
theorem ty235 : TI.ok Tryd.prog 235 ⟨.other, 1, 8, false, [.nilFunc]⟩ := ⟨by show (_ : Option TypeDesc).isSome = true; rw [Tryd.underlying235]; rfl, ⟨_, rfl, rfl, rfl, _, rfl, rfl⟩, rfl, ⟨_, _, rfl, rfl, rfl⟩⟩
theorem ty236 : TI.ok Tryd.prog 236 ⟨.int .i32, 1, 4, false, [.int .i32 0]⟩ := ⟨Tryd.underlying236, ⟨_, rfl, rfl, rfl, _, rfl, rfl⟩, rfl, ⟨_, _, rfl, rfl, rfl⟩⟩
theorem ty237 : TI.ok Tryd.prog 237 ⟨.int .i32, 1, 4, false, [.int .i32 0]⟩ := ⟨Tryd.underlying237, ⟨_, rfl, rfl, rfl, _, rfl, rfl⟩, rfl, ⟨_, _, rfl, rfl, rfl⟩⟩
def tt : Ty := [
  (2, ⟨.int .i64, 1, 8, false, [.int .i64 0]⟩),
  (3, ⟨.int .i64, 1, 8, false, [.int .i64 0]⟩),
  (4, ⟨.bool, 1, 1, false, [.bool false]⟩),
  (5, ⟨.int .u8, 1, 1, false, [.int .u8 0]⟩),
  (6, ⟨.int .u8, 1, 1, false, [.int .u8 0]⟩),
  (9, ⟨.str, 1, 16, false, [.string ⟨#[]⟩]⟩),
  (10, ⟨.str, 1, 16, false, [.string ⟨#[]⟩]⟩),
  (11, ⟨.str, 1, 16, false, [.string ⟨#[]⟩]⟩),
  (12, ⟨.int .u64, 1, 8, false, [.int .u64 0]⟩),
  (21, ⟨.int .i32, 1, 4, false, [.int .i32 0]⟩),
  (169, ⟨.int .i64, 1, 8, false, [.int .i64 0]⟩),
  (186, ⟨.int .u64, 1, 8, false, [.int .u64 0]⟩),
  (192, ⟨.int .u64, 1, 8, false, [.int .u64 0]⟩),
  (201, ⟨.int .u32, 1, 4, false, [.int .u32 0]⟩),
  (233, ⟨.int .u8, 1, 1, false, [.int .u8 0]⟩),
  (234, ⟨.int .u8, 1, 1, false, [.int .u8 0]⟩),
  (236, ⟨.int .i32, 1, 4, false, [.int .i32 0]⟩),
  (237, ⟨.int .i32, 1, 4, false, [.int .i32 0]⟩),
  (7, ⟨.struct [(0, 1), (1, 1), (2, 1), (3, 1)], 4, 24, true, [.int .i64 0, .int .i64 0, .bool false, .int .u8 0]⟩),
  (8, ⟨.struct [(0, 1), (1, 1), (2, 1), (3, 1)], 4, 24, true, [.int .i64 0, .int .i64 0, .bool false, .int .u8 0]⟩),
  (13, ⟨.struct [(0, 1), (1, 1)], 2, 24, true, [.string ⟨#[]⟩, .int .u64 0]⟩),
  (14, ⟨.struct [(0, 1), (1, 1)], 2, 24, true, [.string ⟨#[]⟩, .int .u64 0]⟩),
  (18, ⟨.struct [(0, 1)], 1, 8, true, [.pointer none]⟩),
  (19, ⟨.struct [(0, 1)], 1, 8, true, [.pointer none]⟩),
  (25, ⟨.struct [(0, 1), (1, 1), (2, 1)], 3, 24, true, [.int .i64 0, .int .i64 0, .int .i64 0]⟩),
  (26, ⟨.struct [(0, 1), (1, 1), (2, 1)], 3, 24, true, [.int .i64 0, .int .i64 0, .int .i64 0]⟩),
  (29, ⟨.struct [(0, 1), (1, 1), (2, 1)], 3, 24, true, [.int .i64 0, .int .i64 0, .int .i64 0]⟩),
  (32, ⟨.slice 29, 1, 24, false, [.slice none 0 0]⟩),
  (33, ⟨.struct [(0, 1), (1, 1)], 2, 32, true, [.int .i64 0, .slice none 0 0]⟩),
  (34, ⟨.struct [(0, 1), (1, 1)], 2, 32, true, [.int .i64 0, .slice none 0 0]⟩),
  (42, ⟨.slice 26, 1, 24, false, [.slice none 0 0]⟩),
  (43, ⟨.struct [(0, 1), (1, 1)], 2, 32, true, [.int .i64 0, .slice none 0 0]⟩),
  (44, ⟨.struct [(0, 1), (1, 1)], 2, 32, true, [.int .i64 0, .slice none 0 0]⟩),
  (50, ⟨.struct [(0, 1), (1, 1), (2, 1)], 3, 3, true, [.bool false, .bool false, .bool false]⟩),
  (51, ⟨.struct [(0, 1), (1, 1), (2, 1)], 3, 3, true, [.bool false, .bool false, .bool false]⟩),
  (52, ⟨.struct [(0, 1), (1, 1)], 2, 16, true, [.int .i64 0, .int .i64 0]⟩),
  (53, ⟨.struct [(0, 1), (1, 1)], 2, 16, true, [.int .i64 0, .int .i64 0]⟩),
  (54, ⟨.slice 53, 1, 24, false, [.slice none 0 0]⟩),
  (74, ⟨.slice 9, 1, 24, false, [.slice none 0 0]⟩),
  (88, ⟨.struct [(0, 1), (1, 1)], 2, 24, true, [.string ⟨#[]⟩, .int .i64 0]⟩),
  (89, ⟨.struct [(0, 1), (1, 1)], 2, 24, true, [.string ⟨#[]⟩, .int .i64 0]⟩),
  (106, ⟨.slice 3, 1, 24, false, [.slice none 0 0]⟩),
  (121, ⟨.slice 5, 1, 24, false, [.slice none 0 0]⟩),
  (131, ⟨.map 9 4, 1, 8, false, [.map none]⟩),
  (132, ⟨.struct [(0, 1)], 1, 8, true, [.map none]⟩),
  (133, ⟨.struct [(0, 1)], 1, 8, true, [.map none]⟩),
  (149, ⟨.slice 4, 1, 24, false, [.slice none 0 0]⟩),
  (165, ⟨.struct [(0, 1), (1, 1)], 2, 32, true, [.pointer none, .slice none 0 0]⟩),
  (166, ⟨.struct [(0, 1), (1, 1)], 2, 32, true, [.pointer none, .slice none 0 0]⟩),
  (181, ⟨.struct [(0, 1), (1, 1)], 2, 48, true, [.slice none 0 0, .slice none 0 0]⟩),
  (182, ⟨.struct [(0, 1), (1, 1)], 2, 48, true, [.slice none 0 0, .slice none 0 0]⟩),
  (195, ⟨.struct [(0, 1), (1, 1), (2, 1)], 3, 48, true, [.string ⟨#[]⟩, .string ⟨#[]⟩, .nilIface]⟩),
  (196, ⟨.struct [(0, 1), (1, 1), (2, 1)], 3, 48, true, [.string ⟨#[]⟩, .string ⟨#[]⟩, .nilIface]⟩),
  (214, ⟨.struct [(0, 1)], 1, 16, true, [.string ⟨#[]⟩]⟩),
  (215, ⟨.struct [(0, 1)], 1, 16, true, [.string ⟨#[]⟩]⟩),
  (217, ⟨.struct [(0, 1), (1, 1)], 2, 2, true, [.int .u8 0, .int .u8 0]⟩),
  (218, ⟨.struct [(0, 1), (1, 1)], 2, 2, true, [.int .u8 0, .int .u8 0]⟩),
  (228, ⟨.struct [(0, 1), (1, 1), (2, 1), (3, 1)], 4, 40, true, [.pointer none, .pointer none, .pointer none, .string ⟨#[]⟩]⟩),
  (229, ⟨.struct [(0, 1), (1, 1), (2, 1), (3, 1)], 4, 40, true, [.pointer none, .pointer none, .pointer none, .string ⟨#[]⟩]⟩),
  (1, ⟨.other, 1, 8, false, [.nilFunc]⟩),
  (15, ⟨.other, 1, 8, false, [.pointer none]⟩),
  (16, ⟨.other, 1, 8, false, [.pointer none]⟩),
  (17, ⟨.other, 1, 8, false, [.pointer none]⟩),
  (23, ⟨.other, 1, 8, false, [.nilFunc]⟩),
  (24, ⟨.other, 1, 8, false, [.nilFunc]⟩),
  (28, ⟨.other, 1, 8, false, [.nilFunc]⟩),
  (30, ⟨.other, 1, 8, false, [.nilFunc]⟩),
  (31, ⟨.other, 1, 8, false, [.nilFunc]⟩),
  (36, ⟨.other, 1, 8, false, [.nilFunc]⟩),
  (37, ⟨.other, 1, 8, false, [.nilFunc]⟩),
  (38, ⟨.other, 1, 8, false, [.nilFunc]⟩),
  (39, ⟨.other, 1, 8, false, [.nilFunc]⟩),
  (40, ⟨.other, 1, 8, false, [.nilFunc]⟩),
  (41, ⟨.other, 1, 8, false, [.nilFunc]⟩),
  (45, ⟨.other, 1, 8, false, [.nilFunc]⟩),
  (46, ⟨.other, 1, 8, false, [.nilFunc]⟩),
  (47, ⟨.other, 1, 8, false, [.nilFunc]⟩),
  (48, ⟨.other, 1, 8, false, [.nilFunc]⟩),
  (49, ⟨.other, 1, 8, false, [.nilFunc]⟩),
  (56, ⟨.other, 1, 8, false, [.nilFunc]⟩),
  (57, ⟨.other, 1, 8, false, [.nilFunc]⟩),
  (58, ⟨.other, 1, 8, false, [.nilFunc]⟩),
  (59, ⟨.other, 1, 8, false, [.nilFunc]⟩),
  (60, ⟨.other, 1, 8, false, [.nilFunc]⟩),
  (61, ⟨.other, 1, 8, false, [.nilFunc]⟩),
  (62, ⟨.other, 1, 8, false, [.nilFunc]⟩),
  (63, ⟨.other, 1, 8, false, [.nilFunc]⟩),
  (64, ⟨.other, 1, 8, false, [.nilFunc]⟩),
  (66, ⟨.other, 1, 8, false, [.nilFunc]⟩),
  (67, ⟨.other, 1, 8, false, [.nilFunc]⟩),
  (69, ⟨.other, 1, 8, false, [.nilFunc]⟩),
  (70, ⟨.other, 1, 8, false, [.nilFunc]⟩),
  (71, ⟨.other, 1, 8, false, [.nilFunc]⟩),
  (72, ⟨.other, 1, 8, false, [.nilFunc]⟩),
  (73, ⟨.other, 1, 8, false, [.nilFunc]⟩),
  (76, ⟨.other, 1, 8, false, [.nilFunc]⟩),
  (77, ⟨.other, 1, 8, false, [.nilFunc]⟩),
  (78, ⟨.other, 1, 8, false, [.nilFunc]⟩),
  (79, ⟨.other, 1, 8, false, [.nilFunc]⟩),
  (80, ⟨.other, 1, 8, false, [.nilFunc]⟩),
  (81, ⟨.other, 1, 8, false, [.nilFunc]⟩),
  (82, ⟨.other, 1, 8, false, [.nilFunc]⟩),
  (83, ⟨.other, 1, 8, false, [.nilFunc]⟩),
  (84, ⟨.other, 1, 8, false, [.nilFunc]⟩),
  (85, ⟨.other, 1, 8, false, [.nilFunc]⟩),
  (86, ⟨.other, 1, 8, false, [.nilFunc]⟩),
  (87, ⟨.other, 1, 8, false, [.nilFunc]⟩),
  (90, ⟨.other, 1, 8, false, [.nilFunc]⟩),
  (91, ⟨.other, 1, 8, false, [.nilFunc]⟩),
  (92, ⟨.other, 1, 8, false, [.nilFunc]⟩),
  (93, ⟨.other, 1, 8, false, [.nilFunc]⟩),
  (94, ⟨.other, 1, 8, false, [.nilFunc]⟩),
  (95, ⟨.other, 1, 8, false, [.nilFunc]⟩),
  (96, ⟨.other, 1, 8, false, [.nilFunc]⟩),
  (98, ⟨.other, 1, 8, false, [.nilFunc]⟩),
  (102, ⟨.other, 1, 8, false, [.nilFunc]⟩),
  (103, ⟨.other, 1, 8, false, [.nilFunc]⟩),
  (104, ⟨.other, 1, 8, false, [.nilFunc]⟩),
  (105, ⟨.other, 1, 8, false, [.nilFunc]⟩),
  (107, ⟨.other, 1, 8, false, [.nilFunc]⟩),
  (108, ⟨.other, 1, 8, false, [.nilFunc]⟩),
  (109, ⟨.other, 1, 8, false, [.nilFunc]⟩),
  (110, ⟨.other, 1, 8, false, [.nilFunc]⟩),
  (112, ⟨.other, 1, 8, false, [.nilFunc]⟩),
  (113, ⟨.other, 1, 8, false, [.nilFunc]⟩),
  (114, ⟨.other, 1, 8, false, [.nilFunc]⟩),
  (115, ⟨.other, 1, 8, false, [.nilFunc]⟩),
  (116, ⟨.other, 1, 8, false, [.nilFunc]⟩),
  (117, ⟨.other, 1, 8, false, [.nilFunc]⟩),
  (118, ⟨.other, 1, 8, false, [.nilFunc]⟩),
  (119, ⟨.other, 1, 8, false, [.nilFunc]⟩),
  (120, ⟨.other, 1, 8, false, [.nilFunc]⟩),
  (122, ⟨.other, 1, 8, false, [.nilFunc]⟩),
  (123, ⟨.other, 1, 8, false, [.nilFunc]⟩),
  (124, ⟨.other, 1, 8, false, [.nilFunc]⟩),
  (125, ⟨.other, 1, 8, false, [.nilFunc]⟩),
  (127, ⟨.other, 1, 8, false, [.nilFunc]⟩),
  (128, ⟨.other, 1, 8, false, [.nilFunc]⟩),
  (129, ⟨.other, 1, 8, false, [.nilFunc]⟩),
  (130, ⟨.other, 1, 8, false, [.nilFunc]⟩),
  (134, ⟨.other, 1, 8, false, [.nilFunc]⟩),
  (135, ⟨.other, 1, 8, false, [.nilFunc]⟩),
  (136, ⟨.other, 1, 8, false, [.nilFunc]⟩),
  (137, ⟨.other, 1, 8, false, [.nilFunc]⟩),
  (138, ⟨.other, 1, 8, false, [.nilFunc]⟩),
  (139, ⟨.other, 1, 8, false, [.nilFunc]⟩),
  (140, ⟨.other, 1, 8, false, [.nilFunc]⟩),
  (141, ⟨.other, 1, 8, false, [.nilFunc]⟩),
  (142, ⟨.other, 1, 8, false, [.nilFunc]⟩),
  (143, ⟨.other, 1, 8, false, [.nilFunc]⟩),
  (144, ⟨.other, 1, 8, false, [.nilFunc]⟩),
  (145, ⟨.other, 1, 8, false, [.nilFunc]⟩),
  (146, ⟨.other, 1, 8, false, [.nilFunc]⟩),
  (147, ⟨.other, 1, 8, false, [.nilFunc]⟩),
  (148, ⟨.other, 1, 8, false, [.nilFunc]⟩),
  (150, ⟨.other, 1, 8, false, [.nilFunc]⟩),
  (151, ⟨.other, 1, 8, false, [.nilFunc]⟩),
  (152, ⟨.other, 1, 8, false, [.nilFunc]⟩),
  (153, ⟨.other, 1, 8, false, [.nilFunc]⟩),
  (154, ⟨.other, 1, 8, false, [.nilFunc]⟩),
  (158, ⟨.other, 1, 8, false, [.nilFunc]⟩),
  (159, ⟨.other, 1, 8, false, [.nilFunc]⟩),
  (160, ⟨.other, 1, 8, false, [.pointer none]⟩),
  (161, ⟨.other, 1, 8, false, [.nilFunc]⟩),
  (162, ⟨.other, 1, 8, false, [.nilFunc]⟩),
  (163, ⟨.other, 1, 8, false, [.nilFunc]⟩),
  (164, ⟨.other, 1, 8, false, [.pointer none]⟩),
  (167, ⟨.other, 1, 8, false, [.nilFunc]⟩),
  (168, ⟨.other, 1, 8, false, [.nilFunc]⟩),
  (171, ⟨.other, 1, 8, false, [.nilFunc]⟩),
  (172, ⟨.other, 1, 8, false, [.pointer none]⟩),
  (173, ⟨.other, 1, 8, false, [.nilFunc]⟩),
  (174, ⟨.other, 1, 8, false, [.nilFunc]⟩),
  (176, ⟨.other, 1, 8, false, [.nilFunc]⟩),
  (177, ⟨.other, 1, 8, false, [.nilFunc]⟩),
  (178, ⟨.other, 1, 8, false, [.nilFunc]⟩),
  (179, ⟨.other, 1, 8, false, [.nilFunc]⟩),
  (180, ⟨.other, 1, 8, false, [.pointer none]⟩),
  (183, ⟨.other, 1, 8, false, [.nilFunc]⟩),
  (184, ⟨.other, 1, 8, false, [.nilFunc]⟩),
  (185, ⟨.other, 1, 8, false, [.nilFunc]⟩),
  (187, ⟨.other, 1, 8, false, [.nilFunc]⟩),
  (188, ⟨.other, 1, 8, false, [.nilFunc]⟩),
  (189, ⟨.other, 1, 8, false, [.nilFunc]⟩),
  (190, ⟨.other, 1, 8, false, [.pointer none]⟩),
  (191, ⟨.other, 1, 8, false, [.nilFunc]⟩),
  (194, ⟨.other, 1, 8, false, [.nilFunc]⟩),
  (197, ⟨.other, 1, 8, false, [.nilFunc]⟩),
  (198, ⟨.other, 1, 8, false, [.nilFunc]⟩),
  (199, ⟨.other, 1, 8, false, [.nilFunc]⟩),
  (200, ⟨.other, 1, 8, false, [.nilFunc]⟩),
  (203, ⟨.other, 1, 8, false, [.nilFunc]⟩),
  (204, ⟨.other, 1, 8, false, [.nilFunc]⟩),
  (206, ⟨.other, 1, 8, false, [.nilFunc]⟩),
  (207, ⟨.other, 1, 8, false, [.nilFunc]⟩),
  (209, ⟨.other, 1, 8, false, [.nilFunc]⟩),
  (210, ⟨.other, 1, 8, false, [.nilFunc]⟩),
  (212, ⟨.other, 1, 8, false, [.nilFunc]⟩),
  (213, ⟨.other, 1, 8, false, [.pointer none]⟩),
  (220, ⟨.other, 1, 8, false, [.nilFunc]⟩),
  (221, ⟨.other, 1, 8, false, [.nilFunc]⟩),
  (224, ⟨.other, 1, 8, false, [.nilFunc]⟩),
  (225, ⟨.other, 1, 8, false, [.nilFunc]⟩),
  (235, ⟨.other, 1, 8, false, [.nilFunc]⟩)]
theorem tt_ok : TyOk Tryd.prog tt := tyAll_ok
  ⟨ty2, ty3, ty4, ty5, ty6, ty9, ty10, ty11, ty12, ty21, ty169, ty186, ty192, ty201, ty233, ty234, ty236, ty237, ty7, ty8, ty13, ty14, ty18, ty19, ty25, ty26, ty29, ty32, ty33, ty34, ty42, ty43, ty44, ty50, ty51, ty52, ty53, ty54, ty74, ty88, ty89, ty106, ty121, ty131, ty132, ty133, ty149, ty165, ty166, ty181, ty182, ty195, ty196, ty214, ty215, ty217, ty218, ty228, ty229, ty1, ty15, ty16, ty17, ty23, ty24, ty28, ty30, ty31, ty36, ty37, ty38, ty39, ty40, ty41, ty45, ty46, ty47, ty48, ty49, ty56, ty57, ty58, ty59, ty60, ty61, ty62, ty63, ty64, ty66, ty67, ty69, ty70, ty71, ty72, ty73, ty76, ty77, ty78, ty79, ty80, ty81, ty82, ty83, ty84, ty85, ty86, ty87, ty90, ty91, ty92, ty93, ty94, ty95, ty96, ty98, ty102, ty103, ty104, ty105, ty107, ty108, ty109, ty110, ty112, ty113, ty114, ty115, ty116, ty117, ty118, ty119, ty120, ty122, ty123, ty124, ty125, ty127, ty128, ty129, ty130, ty134, ty135, ty136, ty137, ty138, ty139, ty140, ty141, ty142, ty143, ty144, ty145, ty146, ty147, ty148, ty150, ty151, ty152, ty153, ty154, ty158, ty159, ty160, ty161, ty162, ty163, ty164, ty167, ty168, ty171, ty172, ty173, ty174, ty176, ty177, ty178, ty179, ty180, ty183, ty184, ty185, ty187, ty188, ty189, ty190, ty191, ty194, ty197, ty198, ty199, ty200, ty203, ty204, ty206, ty207, ty209, ty210, ty212, ty213, ty220, ty221, ty224, ty225, ty235, trivial⟩
end Go.Proofs.YtmdipjoogcdngaaDoor.X
