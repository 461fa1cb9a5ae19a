/- The program's types, as the walk asks for them. No condition. -/
import Derived.Test.YtkieakmonaafbaaDoorQuiet
import Derived.Test.YtkieakmonaafbaaDoorProg
namespace Go.Proofs.YtkieakmonaafbaaDoor.X
open Go.Proofs
set_option maxRecDepth 100000
set_option linter.unusedVariables false
theorem ty1 : TI.ok Tryd.prog 1 ⟨.other, 1, 8, false, [.nilFunc]⟩ := ⟨by show (_ : Option TypeDesc).isSome = true; rw [Tryd.underlying1]; rfl, ⟨_, rfl, rfl, rfl, _, rfl, rfl⟩, rfl, ⟨_, _, rfl, rfl, rfl⟩⟩
theorem ty2 : TI.ok Tryd.prog 2 ⟨.int .i64, 1, 8, false, [.int .i64 0]⟩ := ⟨Tryd.underlying2, ⟨_, rfl, rfl, rfl, _, rfl, rfl⟩, rfl, ⟨_, _, rfl, rfl, rfl⟩⟩
theorem ty3 : TI.ok Tryd.prog 3 ⟨.int .i64, 1, 8, false, [.int .i64 0]⟩ := ⟨Tryd.underlying3, ⟨_, rfl, rfl, rfl, _, rfl, rfl⟩, rfl, ⟨_, _, rfl, rfl, rfl⟩⟩
theorem ty4 : TI.ok Tryd.prog 4 ⟨.bool, 1, 1, false, [.bool false]⟩ := ⟨Tryd.underlying4, ⟨_, rfl, rfl, rfl, _, rfl, rfl⟩, rfl, ⟨_, _, rfl, rfl, rfl⟩⟩
theorem ty5 : TI.ok Tryd.prog 5 ⟨.int .u8, 1, 1, false, [.int .u8 0]⟩ := ⟨Tryd.underlying5, ⟨_, rfl, rfl, rfl, _, rfl, rfl⟩, rfl, ⟨_, _, rfl, rfl, rfl⟩⟩
theorem ty6 : TI.ok Tryd.prog 6 ⟨.int .u8, 1, 1, false, [.int .u8 0]⟩ := ⟨Tryd.underlying6, ⟨_, rfl, rfl, rfl, _, rfl, rfl⟩, rfl, ⟨_, _, rfl, rfl, rfl⟩⟩
theorem ty7 : TI.ok Tryd.prog 7 ⟨.struct [(0, 1), (1, 1), (2, 1), (3, 1)], 4, 24, true, [.int .i64 0, .int .i64 0, .bool false, .int .u8 0]⟩ := ⟨⟨_, Tryd.underlying7, rfl, fun i o s h => match i, h with
      | 0, h => by cases h; exact ⟨_, _, rfl, rfl, rfl, rfl, by decide⟩
      | 1, h => by cases h; exact ⟨_, _, rfl, rfl, rfl, rfl, by decide⟩
      | 2, h => by cases h; exact ⟨_, _, rfl, rfl, rfl, rfl, by decide⟩
      | 3, h => by cases h; exact ⟨_, _, rfl, rfl, rfl, rfl, by decide⟩
      | n + 4, h => by simp at h⟩, ⟨_, rfl, rfl, rfl, _, rfl, rfl⟩, rfl, ⟨_, _, rfl, rfl, rfl⟩⟩
theorem ty8 : TI.ok Tryd.prog 8 ⟨.struct [(0, 1), (1, 1), (2, 1), (3, 1)], 4, 24, true, [.int .i64 0, .int .i64 0, .bool false, .int .u8 0]⟩ := ⟨⟨_, Tryd.underlying8, rfl, fun i o s h => match i, h with
      | 0, h => by cases h; exact ⟨_, _, rfl, rfl, rfl, rfl, by decide⟩
      | 1, h => by cases h; exact ⟨_, _, rfl, rfl, rfl, rfl, by decide⟩
      | 2, h => by cases h; exact ⟨_, _, rfl, rfl, rfl, rfl, by decide⟩
      | 3, h => by cases h; exact ⟨_, _, rfl, rfl, rfl, rfl, by decide⟩
      | n + 4, h => by simp at h⟩, ⟨_, rfl, rfl, rfl, _, rfl, rfl⟩, rfl, ⟨_, _, rfl, rfl, rfl⟩⟩
theorem ty9 : TI.ok Tryd.prog 9 ⟨.str, 1, 16, false, [.string ⟨#[]⟩]⟩ := ⟨Tryd.underlying9, ⟨_, rfl, rfl, rfl, _, rfl, rfl⟩, rfl, ⟨_, _, rfl, rfl, rfl⟩⟩
theorem ty10 : TI.ok Tryd.prog 10 ⟨.str, 1, 16, false, [.string ⟨#[]⟩]⟩ := ⟨Tryd.underlying10, ⟨_, rfl, rfl, rfl, _, rfl, rfl⟩, rfl, ⟨_, _, rfl, rfl, rfl⟩⟩
theorem ty11 : TI.ok Tryd.prog 11 ⟨.str, 1, 16, false, [.string ⟨#[]⟩]⟩ := ⟨Tryd.underlying11, ⟨_, rfl, rfl, rfl, _, rfl, rfl⟩, rfl, ⟨_, _, rfl, rfl, rfl⟩⟩
theorem ty12 : TI.ok Tryd.prog 12 ⟨.int .u64, 1, 8, false, [.int .u64 0]⟩ := ⟨Tryd.underlying12, ⟨_, rfl, rfl, rfl, _, rfl, rfl⟩, rfl, ⟨_, _, rfl, rfl, rfl⟩⟩
theorem ty13 : TI.ok Tryd.prog 13 ⟨.struct [(0, 1), (1, 1)], 2, 24, true, [.string ⟨#[]⟩, .int .u64 0]⟩ := ⟨⟨_, Tryd.underlying13, rfl, fun i o s h => match i, h with
      | 0, h => by cases h; exact ⟨_, _, rfl, rfl, rfl, rfl, by decide⟩
      | 1, h => by cases h; exact ⟨_, _, rfl, rfl, rfl, rfl, by decide⟩
      | n + 2, h => by simp at h⟩, ⟨_, rfl, rfl, rfl, _, rfl, rfl⟩, rfl, ⟨_, _, rfl, rfl, rfl⟩⟩
theorem ty14 : TI.ok Tryd.prog 14 ⟨.struct [(0, 1), (1, 1)], 2, 24, true, [.string ⟨#[]⟩, .int .u64 0]⟩ := ⟨⟨_, Tryd.underlying14, rfl, fun i o s h => match i, h with
      | 0, h => by cases h; exact ⟨_, _, rfl, rfl, rfl, rfl, by decide⟩
      | 1, h => by cases h; exact ⟨_, _, rfl, rfl, rfl, rfl, by decide⟩
      | n + 2, h => by simp at h⟩, ⟨_, rfl, rfl, rfl, _, rfl, rfl⟩, rfl, ⟨_, _, rfl, rfl, rfl⟩⟩
theorem ty15 : TI.ok Tryd.prog 15 ⟨.other, 1, 8, false, [.pointer none]⟩ := ⟨by show (_ : Option TypeDesc).isSome = true; rw [Tryd.underlying15]; rfl, ⟨_, rfl, rfl, rfl, _, rfl, rfl⟩, rfl, ⟨_, _, rfl, rfl, rfl⟩⟩
theorem ty16 : TI.ok Tryd.prog 16 ⟨.other, 1, 8, false, [.pointer none]⟩ := ⟨by show (_ : Option TypeDesc).isSome = true; rw [Tryd.underlying16]; rfl, ⟨_, rfl, rfl, rfl, _, rfl, rfl⟩, rfl, ⟨_, _, rfl, rfl, rfl⟩⟩
theorem ty17 : TI.ok Tryd.prog 17 ⟨.other, 1, 8, false, [.pointer none]⟩ := ⟨by show (_ : Option TypeDesc).isSome = true; rw [Tryd.underlying17]; rfl, ⟨_, rfl, rfl, rfl, _, rfl, rfl⟩, rfl, ⟨_, _, rfl, rfl, rfl⟩⟩
theorem ty18 : TI.ok Tryd.prog 18 ⟨.struct [(0, 1)], 1, 8, true, [.pointer none]⟩ := ⟨⟨_, Tryd.underlying18, rfl, fun i o s h => match i, h with
      | 0, h => by cases h; exact ⟨_, _, rfl, rfl, rfl, rfl, by decide⟩
      | n + 1, h => by simp at h⟩, ⟨_, rfl, rfl, rfl, _, rfl, rfl⟩, rfl, ⟨_, _, rfl, rfl, rfl⟩⟩
theorem ty19 : TI.ok Tryd.prog 19 ⟨.struct [(0, 1)], 1, 8, true, [.pointer none]⟩ := ⟨⟨_, Tryd.underlying19, rfl, fun i o s h => match i, h with
      | 0, h => by cases h; exact ⟨_, _, rfl, rfl, rfl, rfl, by decide⟩
      | n + 1, h => by simp at h⟩, ⟨_, rfl, rfl, rfl, _, rfl, rfl⟩, rfl, ⟨_, _, rfl, rfl, rfl⟩⟩
theorem ty21 : TI.ok Tryd.prog 21 ⟨.int .i32, 1, 4, false, [.int .i32 0]⟩ := ⟨Tryd.underlying21, ⟨_, rfl, rfl, rfl, _, rfl, rfl⟩, rfl, ⟨_, _, rfl, rfl, rfl⟩⟩
theorem ty23 : TI.ok Tryd.prog 23 ⟨.other, 1, 8, false, [.nilFunc]⟩ := ⟨by show (_ : Option TypeDesc).isSome = true; rw [Tryd.underlying23]; rfl, ⟨_, rfl, rfl, rfl, _, rfl, rfl⟩, rfl, ⟨_, _, rfl, rfl, rfl⟩⟩
theorem ty24 : TI.ok Tryd.prog 24 ⟨.other, 1, 8, false, [.nilFunc]⟩ := ⟨by show (_ : Option TypeDesc).isSome = true; rw [Tryd.underlying24]; rfl, ⟨_, rfl, rfl, rfl, _, rfl, rfl⟩, rfl, ⟨_, _, rfl, rfl, rfl⟩⟩
theorem ty26 : TI.ok Tryd.prog 26 ⟨.other, 1, 8, false, [.nilFunc]⟩ := ⟨by show (_ : Option TypeDesc).isSome = true; rw [Tryd.underlying26]; rfl, ⟨_, rfl, rfl, rfl, _, rfl, rfl⟩, rfl, ⟨_, _, rfl, rfl, rfl⟩⟩
theorem ty27 : TI.ok Tryd.prog 27 ⟨.other, 1, 8, false, [.nilFunc]⟩ := ⟨by show (_ : Option TypeDesc).isSome = true; rw [Tryd.underlying27]; rfl, ⟨_, rfl, rfl, rfl, _, rfl, rfl⟩, rfl, ⟨_, _, rfl, rfl, rfl⟩⟩
theorem ty28 : TI.ok Tryd.prog 28 ⟨.other, 1, 8, false, [.nilFunc]⟩ := ⟨by show (_ : Option TypeDesc).isSome = true; rw [Tryd.underlying28]; rfl, ⟨_, rfl, rfl, rfl, _, rfl, rfl⟩, rfl, ⟨_, _, rfl, rfl, rfl⟩⟩
theorem ty29 : TI.ok Tryd.prog 29 ⟨.slice 138, 1, 24, false, [.slice none 0 0]⟩ := ⟨Tryd.underlying29, ⟨_, rfl, rfl, rfl, _, rfl, rfl⟩, rfl, ⟨_, _, rfl, rfl, rfl⟩⟩
theorem ty30 : TI.ok Tryd.prog 30 ⟨.struct [(0, 1), (1, 1)], 2, 32, true, [.int .i64 0, .slice none 0 0]⟩ := ⟨⟨_, Tryd.underlying30, rfl, fun i o s h => match i, h with
      | 0, h => by cases h; exact ⟨_, _, rfl, rfl, rfl, rfl, by decide⟩
      | 1, h => by cases h; exact ⟨_, _, rfl, rfl, rfl, rfl, by decide⟩
      | n + 2, h => by simp at h⟩, ⟨_, rfl, rfl, rfl, _, rfl, rfl⟩, rfl, ⟨_, _, rfl, rfl, rfl⟩⟩
theorem ty31 : TI.ok Tryd.prog 31 ⟨.struct [(0, 1), (1, 1)], 2, 32, true, [.int .i64 0, .slice none 0 0]⟩ := ⟨⟨_, Tryd.underlying31, rfl, fun i o s h => match i, h with
      | 0, h => by cases h; exact ⟨_, _, rfl, rfl, rfl, rfl, by decide⟩
      | 1, h => by cases h; exact ⟨_, _, rfl, rfl, rfl, rfl, by decide⟩
      | n + 2, h => by simp at h⟩, ⟨_, rfl, rfl, rfl, _, rfl, rfl⟩, rfl, ⟨_, _, rfl, rfl, rfl⟩⟩
theorem ty32 : TI.ok Tryd.prog 32 ⟨.other, 1, 8, false, [.nilFunc]⟩ := ⟨by show (_ : Option TypeDesc).isSome = true; rw [Tryd.underlying32]; rfl, ⟨_, rfl, rfl, rfl, _, rfl, rfl⟩, rfl, ⟨_, _, rfl, rfl, rfl⟩⟩
theorem ty33 : TI.ok Tryd.prog 33 ⟨.other, 1, 8, false, [.nilFunc]⟩ := ⟨by show (_ : Option TypeDesc).isSome = true; rw [Tryd.underlying33]; rfl, ⟨_, rfl, rfl, rfl, _, rfl, rfl⟩, rfl, ⟨_, _, rfl, rfl, rfl⟩⟩
theorem ty34 : TI.ok Tryd.prog 34 ⟨.slice 104, 1, 24, false, [.slice none 0 0]⟩ := ⟨Tryd.underlying34, ⟨_, rfl, rfl, rfl, _, rfl, rfl⟩, rfl, ⟨_, _, rfl, rfl, rfl⟩⟩
theorem ty35 : TI.ok Tryd.prog 35 ⟨.struct [(0, 1), (1, 1)], 2, 32, true, [.int .i64 0, .slice none 0 0]⟩ := ⟨⟨_, Tryd.underlying35, rfl, fun i o s h => match i, h with
      | 0, h => by cases h; exact ⟨_, _, rfl, rfl, rfl, rfl, by decide⟩
      | 1, h => by cases h; exact ⟨_, _, rfl, rfl, rfl, rfl, by decide⟩
      | n + 2, h => by simp at h⟩, ⟨_, rfl, rfl, rfl, _, rfl, rfl⟩, rfl, ⟨_, _, rfl, rfl, rfl⟩⟩
theorem ty36 : TI.ok Tryd.prog 36 ⟨.struct [(0, 1), (1, 1)], 2, 32, true, [.int .i64 0, .slice none 0 0]⟩ := ⟨⟨_, Tryd.underlying36, rfl, fun i o s h => match i, h with
      | 0, h => by cases h; exact ⟨_, _, rfl, rfl, rfl, rfl, by decide⟩
      | 1, h => by cases h; exact ⟨_, _, rfl, rfl, rfl, rfl, by decide⟩
      | n + 2, h => by simp at h⟩, ⟨_, rfl, rfl, rfl, _, rfl, rfl⟩, rfl, ⟨_, _, rfl, rfl, rfl⟩⟩
theorem ty37 : TI.ok Tryd.prog 37 ⟨.other, 1, 8, false, [.nilFunc]⟩ := ⟨by show (_ : Option TypeDesc).isSome = true; rw [Tryd.underlying37]; rfl, ⟨_, rfl, rfl, rfl, _, rfl, rfl⟩, rfl, ⟨_, _, rfl, rfl, rfl⟩⟩
theorem ty38 : TI.ok Tryd.prog 38 ⟨.other, 1, 8, false, [.nilFunc]⟩ := ⟨by show (_ : Option TypeDesc).isSome = true; rw [Tryd.underlying38]; rfl, ⟨_, rfl, rfl, rfl, _, rfl, rfl⟩, rfl, ⟨_, _, rfl, rfl, rfl⟩⟩
theorem ty39 : TI.ok Tryd.prog 39 ⟨.other, 1, 8, false, [.nilFunc]⟩ := ⟨by show (_ : Option TypeDesc).isSome = true; rw [Tryd.underlying39]; rfl, ⟨_, rfl, rfl, rfl, _, rfl, rfl⟩, rfl, ⟨_, _, rfl, rfl, rfl⟩⟩
theorem ty41 : TI.ok Tryd.prog 41 ⟨.other, 1, 8, false, [.nilFunc]⟩ := ⟨by show (_ : Option TypeDesc).isSome = true; rw [Tryd.underlying41]; rfl, ⟨_, rfl, rfl, rfl, _, rfl, rfl⟩, rfl, ⟨_, _, rfl, rfl, rfl⟩⟩
theorem ty42 : TI.ok Tryd.prog 42 ⟨.other, 1, 8, false, [.nilFunc]⟩ := ⟨by show (_ : Option TypeDesc).isSome = true; rw [Tryd.underlying42]; rfl, ⟨_, rfl, rfl, rfl, _, rfl, rfl⟩, rfl, ⟨_, _, rfl, rfl, rfl⟩⟩
theorem ty43 : TI.ok Tryd.prog 43 ⟨.struct [(0, 1), (1, 1)], 2, 32, true, [.string ⟨#[]⟩, .string ⟨#[]⟩]⟩ := ⟨⟨_, Tryd.underlying43, rfl, fun i o s h => match i, h with
      | 0, h => by cases h; exact ⟨_, _, rfl, rfl, rfl, rfl, by decide⟩
      | 1, h => by cases h; exact ⟨_, _, rfl, rfl, rfl, rfl, by decide⟩
      | n + 2, h => by simp at h⟩, ⟨_, rfl, rfl, rfl, _, rfl, rfl⟩, rfl, ⟨_, _, rfl, rfl, rfl⟩⟩
theorem ty44 : TI.ok Tryd.prog 44 ⟨.struct [(0, 1), (1, 1)], 2, 32, true, [.string ⟨#[]⟩, .string ⟨#[]⟩]⟩ := ⟨⟨_, Tryd.underlying44, rfl, fun i o s h => match i, h with
      | 0, h => by cases h; exact ⟨_, _, rfl, rfl, rfl, rfl, by decide⟩
      | 1, h => by cases h; exact ⟨_, _, rfl, rfl, rfl, rfl, by decide⟩
      | n + 2, h => by simp at h⟩, ⟨_, rfl, rfl, rfl, _, rfl, rfl⟩, rfl, ⟨_, _, rfl, rfl, rfl⟩⟩
theorem ty45 : TI.ok Tryd.prog 45 ⟨.other, 1, 8, false, [.nilFunc]⟩ := ⟨by show (_ : Option TypeDesc).isSome = true; rw [Tryd.underlying45]; rfl, ⟨_, rfl, rfl, rfl, _, rfl, rfl⟩, rfl, ⟨_, _, rfl, rfl, rfl⟩⟩
theorem ty46 : TI.ok Tryd.prog 46 ⟨.other, 1, 8, false, [.nilFunc]⟩ := ⟨by show (_ : Option TypeDesc).isSome = true; rw [Tryd.underlying46]; rfl, ⟨_, rfl, rfl, rfl, _, rfl, rfl⟩, rfl, ⟨_, _, rfl, rfl, rfl⟩⟩
theorem ty47 : TI.ok Tryd.prog 47 ⟨.struct [(0, 1), (1, 1)], 2, 32, true, [.string ⟨#[]⟩, .string ⟨#[]⟩]⟩ := ⟨⟨_, Tryd.underlying47, rfl, fun i o s h => match i, h with
      | 0, h => by cases h; exact ⟨_, _, rfl, rfl, rfl, rfl, by decide⟩
      | 1, h => by cases h; exact ⟨_, _, rfl, rfl, rfl, rfl, by decide⟩
      | n + 2, h => by simp at h⟩, ⟨_, rfl, rfl, rfl, _, rfl, rfl⟩, rfl, ⟨_, _, rfl, rfl, rfl⟩⟩
theorem ty48 : TI.ok Tryd.prog 48 ⟨.other, 1, 8, false, [.nilFunc]⟩ := ⟨by show (_ : Option TypeDesc).isSome = true; rw [Tryd.underlying48]; rfl, ⟨_, rfl, rfl, rfl, _, rfl, rfl⟩, rfl, ⟨_, _, rfl, rfl, rfl⟩⟩
theorem ty49 : TI.ok Tryd.prog 49 ⟨.other, 1, 8, false, [.nilFunc]⟩ := ⟨by show (_ : Option TypeDesc).isSome = true; rw [Tryd.underlying49]; rfl, ⟨_, rfl, rfl, rfl, _, rfl, rfl⟩, rfl, ⟨_, _, rfl, rfl, rfl⟩⟩
theorem ty50 : TI.ok Tryd.prog 50 ⟨.struct [(0, 1), (1, 1), (2, 1)], 3, 3, true, [.bool false, .bool false, .bool false]⟩ := ⟨⟨_, Tryd.underlying50, rfl, fun i o s h => match i, h with
      | 0, h => by cases h; exact ⟨_, _, rfl, rfl, rfl, rfl, by decide⟩
      | 1, h => by cases h; exact ⟨_, _, rfl, rfl, rfl, rfl, by decide⟩
      | 2, h => by cases h; exact ⟨_, _, rfl, rfl, rfl, rfl, by decide⟩
      | n + 3, h => by simp at h⟩, ⟨_, rfl, rfl, rfl, _, rfl, rfl⟩, rfl, ⟨_, _, rfl, rfl, rfl⟩⟩
theorem ty51 : TI.ok Tryd.prog 51 ⟨.struct [(0, 1), (1, 1), (2, 1)], 3, 3, true, [.bool false, .bool false, .bool false]⟩ := ⟨⟨_, Tryd.underlying51, rfl, fun i o s h => match i, h with
      | 0, h => by cases h; exact ⟨_, _, rfl, rfl, rfl, rfl, by decide⟩
      | 1, h => by cases h; exact ⟨_, _, rfl, rfl, rfl, rfl, by decide⟩
      | 2, h => by cases h; exact ⟨_, _, rfl, rfl, rfl, rfl, by decide⟩
      | n + 3, h => by simp at h⟩, ⟨_, rfl, rfl, rfl, _, rfl, rfl⟩, rfl, ⟨_, _, rfl, rfl, rfl⟩⟩
theorem ty52 : TI.ok Tryd.prog 52 ⟨.struct [(0, 1), (1, 1)], 2, 16, true, [.int .i64 0, .int .i64 0]⟩ := ⟨⟨_, Tryd.underlying52, rfl, fun i o s h => match i, h with
      | 0, h => by cases h; exact ⟨_, _, rfl, rfl, rfl, rfl, by decide⟩
      | 1, h => by cases h; exact ⟨_, _, rfl, rfl, rfl, rfl, by decide⟩
      | n + 2, h => by simp at h⟩, ⟨_, rfl, rfl, rfl, _, rfl, rfl⟩, rfl, ⟨_, _, rfl, rfl, rfl⟩⟩
theorem ty53 : TI.ok Tryd.prog 53 ⟨.struct [(0, 1), (1, 1)], 2, 16, true, [.int .i64 0, .int .i64 0]⟩ := ⟨⟨_, Tryd.underlying53, rfl, fun i o s h => match i, h with
      | 0, h => by cases h; exact ⟨_, _, rfl, rfl, rfl, rfl, by decide⟩
      | 1, h => by cases h; exact ⟨_, _, rfl, rfl, rfl, rfl, by decide⟩
      | n + 2, h => by simp at h⟩, ⟨_, rfl, rfl, rfl, _, rfl, rfl⟩, rfl, ⟨_, _, rfl, rfl, rfl⟩⟩
theorem ty54 : TI.ok Tryd.prog 54 ⟨.slice 53, 1, 24, false, [.slice none 0 0]⟩ := ⟨Tryd.underlying54, ⟨_, rfl, rfl, rfl, _, rfl, rfl⟩, rfl, ⟨_, _, rfl, rfl, rfl⟩⟩
theorem ty56 : TI.ok Tryd.prog 56 ⟨.other, 1, 8, false, [.nilFunc]⟩ := ⟨by show (_ : Option TypeDesc).isSome = true; rw [Tryd.underlying56]; rfl, ⟨_, rfl, rfl, rfl, _, rfl, rfl⟩, rfl, ⟨_, _, rfl, rfl, rfl⟩⟩
theorem ty57 : TI.ok Tryd.prog 57 ⟨.other, 1, 8, false, [.nilFunc]⟩ := ⟨by show (_ : Option TypeDesc).isSome = true; rw [Tryd.underlying57]; rfl, ⟨_, rfl, rfl, rfl, _, rfl, rfl⟩, rfl, ⟨_, _, rfl, rfl, rfl⟩⟩
theorem ty58 : TI.ok Tryd.prog 58 ⟨.other, 1, 8, false, [.nilFunc]⟩ := ⟨by show (_ : Option TypeDesc).isSome = true; rw [Tryd.underlying58]; rfl, ⟨_, rfl, rfl, rfl, _, rfl, rfl⟩, rfl, ⟨_, _, rfl, rfl, rfl⟩⟩
theorem ty59 : TI.ok Tryd.prog 59 ⟨.other, 1, 8, false, [.nilFunc]⟩ := ⟨by show (_ : Option TypeDesc).isSome = true; rw [Tryd.underlying59]; rfl, ⟨_, rfl, rfl, rfl, _, rfl, rfl⟩, rfl, ⟨_, _, rfl, rfl, rfl⟩⟩
theorem ty60 : TI.ok Tryd.prog 60 ⟨.other, 1, 8, false, [.nilFunc]⟩ := ⟨by show (_ : Option TypeDesc).isSome = true; rw [Tryd.underlying60]; rfl, ⟨_, rfl, rfl, rfl, _, rfl, rfl⟩, rfl, ⟨_, _, rfl, rfl, rfl⟩⟩
theorem ty62 : TI.ok Tryd.prog 62 ⟨.other, 1, 8, false, [.nilFunc]⟩ := ⟨by show (_ : Option TypeDesc).isSome = true; rw [Tryd.underlying62]; rfl, ⟨_, rfl, rfl, rfl, _, rfl, rfl⟩, rfl, ⟨_, _, rfl, rfl, rfl⟩⟩
theorem ty63 : TI.ok Tryd.prog 63 ⟨.other, 1, 8, false, [.nilFunc]⟩ := ⟨by show (_ : Option TypeDesc).isSome = true; rw [Tryd.underlying63]; rfl, ⟨_, rfl, rfl, rfl, _, rfl, rfl⟩, rfl, ⟨_, _, rfl, rfl, rfl⟩⟩
theorem ty64 : TI.ok Tryd.prog 64 ⟨.other, 1, 8, false, [.nilFunc]⟩ := ⟨by show (_ : Option TypeDesc).isSome = true; rw [Tryd.underlying64]; rfl, ⟨_, rfl, rfl, rfl, _, rfl, rfl⟩, rfl, ⟨_, _, rfl, rfl, rfl⟩⟩
theorem ty65 : TI.ok Tryd.prog 65 ⟨.other, 1, 8, false, [.nilFunc]⟩ := ⟨by show (_ : Option TypeDesc).isSome = true; rw [Tryd.underlying65]; rfl, ⟨_, rfl, rfl, rfl, _, rfl, rfl⟩, rfl, ⟨_, _, rfl, rfl, rfl⟩⟩
theorem ty67 : TI.ok Tryd.prog 67 ⟨.other, 1, 8, false, [.nilFunc]⟩ := ⟨by show (_ : Option TypeDesc).isSome = true; rw [Tryd.underlying67]; rfl, ⟨_, rfl, rfl, rfl, _, rfl, rfl⟩, rfl, ⟨_, _, rfl, rfl, rfl⟩⟩
theorem ty68 : TI.ok Tryd.prog 68 ⟨.other, 1, 8, false, [.nilFunc]⟩ := ⟨by show (_ : Option TypeDesc).isSome = true; rw [Tryd.underlying68]; rfl, ⟨_, rfl, rfl, rfl, _, rfl, rfl⟩, rfl, ⟨_, _, rfl, rfl, rfl⟩⟩
theorem ty69 : TI.ok Tryd.prog 69 ⟨.other, 1, 8, false, [.nilFunc]⟩ := ⟨by show (_ : Option TypeDesc).isSome = true; rw [Tryd.underlying69]; rfl, ⟨_, rfl, rfl, rfl, _, rfl, rfl⟩, rfl, ⟨_, _, rfl, rfl, rfl⟩⟩
theorem ty70 : TI.ok Tryd.prog 70 ⟨.other, 1, 8, false, [.nilFunc]⟩ := ⟨by show (_ : Option TypeDesc).isSome = true; rw [Tryd.underlying70]; rfl, ⟨_, rfl, rfl, rfl, _, rfl, rfl⟩, rfl, ⟨_, _, rfl, rfl, rfl⟩⟩
theorem ty71 : TI.ok Tryd.prog 71 ⟨.other, 1, 8, false, [.nilFunc]⟩ := ⟨by show (_ : Option TypeDesc).isSome = true; rw [Tryd.underlying71]; rfl, ⟨_, rfl, rfl, rfl, _, rfl, rfl⟩, rfl, ⟨_, _, rfl, rfl, rfl⟩⟩
theorem ty72 : TI.ok Tryd.prog 72 ⟨.other, 1, 8, false, [.nilFunc]⟩ := ⟨by show (_ : Option TypeDesc).isSome = true; rw [Tryd.underlying72]; rfl, ⟨_, rfl, rfl, rfl, _, rfl, rfl⟩, rfl, ⟨_, _, rfl, rfl, rfl⟩⟩
theorem ty73 : TI.ok Tryd.prog 73 ⟨.other, 1, 8, false, [.nilFunc]⟩ := ⟨by show (_ : Option TypeDesc).isSome = true; rw [Tryd.underlying73]; rfl, ⟨_, rfl, rfl, rfl, _, rfl, rfl⟩, rfl, ⟨_, _, rfl, rfl, rfl⟩⟩
theorem ty74 : TI.ok Tryd.prog 74 ⟨.other, 1, 8, false, [.nilFunc]⟩ := ⟨by show (_ : Option TypeDesc).isSome = true; rw [Tryd.underlying74]; rfl, ⟨_, rfl, rfl, rfl, _, rfl, rfl⟩, rfl, ⟨_, _, rfl, rfl, rfl⟩⟩
theorem ty75 : TI.ok Tryd.prog 75 ⟨.other, 1, 8, false, [.nilFunc]⟩ := ⟨by show (_ : Option TypeDesc).isSome = true; rw [Tryd.underlying75]; rfl, ⟨_, rfl, rfl, rfl, _, rfl, rfl⟩, rfl, ⟨_, _, rfl, rfl, rfl⟩⟩
theorem ty76 : TI.ok Tryd.prog 76 ⟨.map 9 3, 1, 8, false, [.map none]⟩ := ⟨Tryd.underlying76, ⟨_, rfl, rfl, rfl, _, rfl, rfl⟩, rfl, ⟨_, _, rfl, rfl, rfl⟩⟩
theorem ty77 : TI.ok Tryd.prog 77 ⟨.map 9 3, 1, 8, false, [.map none]⟩ := ⟨Tryd.underlying77, ⟨_, rfl, rfl, rfl, _, rfl, rfl⟩, rfl, ⟨_, _, rfl, rfl, rfl⟩⟩
theorem ty78 : TI.ok Tryd.prog 78 ⟨.slice 9, 1, 24, false, [.slice none 0 0]⟩ := ⟨Tryd.underlying78, ⟨_, rfl, rfl, rfl, _, rfl, rfl⟩, rfl, ⟨_, _, rfl, rfl, rfl⟩⟩
theorem ty80 : TI.ok Tryd.prog 80 ⟨.other, 1, 8, false, [.nilFunc]⟩ := ⟨by show (_ : Option TypeDesc).isSome = true; rw [Tryd.underlying80]; rfl, ⟨_, rfl, rfl, rfl, _, rfl, rfl⟩, rfl, ⟨_, _, rfl, rfl, rfl⟩⟩
theorem ty81 : TI.ok Tryd.prog 81 ⟨.other, 1, 8, false, [.nilFunc]⟩ := ⟨by show (_ : Option TypeDesc).isSome = true; rw [Tryd.underlying81]; rfl, ⟨_, rfl, rfl, rfl, _, rfl, rfl⟩, rfl, ⟨_, _, rfl, rfl, rfl⟩⟩
theorem ty82 : TI.ok Tryd.prog 82 ⟨.other, 1, 8, false, [.nilFunc]⟩ := ⟨by show (_ : Option TypeDesc).isSome = true; rw [Tryd.underlying82]; rfl, ⟨_, rfl, rfl, rfl, _, rfl, rfl⟩, rfl, ⟨_, _, rfl, rfl, rfl⟩⟩
theorem ty83 : TI.ok Tryd.prog 83 ⟨.struct [(0, 1), (1, 1)], 2, 24, true, [.string ⟨#[]⟩, .int .i64 0]⟩ := ⟨⟨_, Tryd.underlying83, rfl, fun i o s h => match i, h with
      | 0, h => by cases h; exact ⟨_, _, rfl, rfl, rfl, rfl, by decide⟩
      | 1, h => by cases h; exact ⟨_, _, rfl, rfl, rfl, rfl, by decide⟩
      | n + 2, h => by simp at h⟩, ⟨_, rfl, rfl, rfl, _, rfl, rfl⟩, rfl, ⟨_, _, rfl, rfl, rfl⟩⟩
theorem ty84 : TI.ok Tryd.prog 84 ⟨.struct [(0, 1), (1, 1)], 2, 24, true, [.string ⟨#[]⟩, .int .i64 0]⟩ := ⟨⟨_, Tryd.underlying84, rfl, fun i o s h => match i, h with
      | 0, h => by cases h; exact ⟨_, _, rfl, rfl, rfl, rfl, by decide⟩
      | 1, h => by cases h; exact ⟨_, _, rfl, rfl, rfl, rfl, by decide⟩
      | n + 2, h => by simp at h⟩, ⟨_, rfl, rfl, rfl, _, rfl, rfl⟩, rfl, ⟨_, _, rfl, rfl, rfl⟩⟩
theorem ty85 : TI.ok Tryd.prog 85 ⟨.other, 1, 8, false, [.nilFunc]⟩ := ⟨by show (_ : Option TypeDesc).isSome = true; rw [Tryd.underlying85]; rfl, ⟨_, rfl, rfl, rfl, _, rfl, rfl⟩, rfl, ⟨_, _, rfl, rfl, rfl⟩⟩
theorem ty86 : TI.ok Tryd.prog 86 ⟨.other, 1, 8, false, [.nilFunc]⟩ := ⟨by show (_ : Option TypeDesc).isSome = true; rw [Tryd.underlying86]; rfl, ⟨_, rfl, rfl, rfl, _, rfl, rfl⟩, rfl, ⟨_, _, rfl, rfl, rfl⟩⟩
theorem ty87 : TI.ok Tryd.prog 87 ⟨.other, 1, 8, false, [.nilFunc]⟩ := ⟨by show (_ : Option TypeDesc).isSome = true; rw [Tryd.underlying87]; rfl, ⟨_, rfl, rfl, rfl, _, rfl, rfl⟩, rfl, ⟨_, _, rfl, rfl, rfl⟩⟩
theorem ty88 : TI.ok Tryd.prog 88 ⟨.other, 1, 8, false, [.nilFunc]⟩ := ⟨by show (_ : Option TypeDesc).isSome = true; rw [Tryd.underlying88]; rfl, ⟨_, rfl, rfl, rfl, _, rfl, rfl⟩, rfl, ⟨_, _, rfl, rfl, rfl⟩⟩
theorem ty89 : TI.ok Tryd.prog 89 ⟨.other, 1, 8, false, [.nilFunc]⟩ := ⟨by show (_ : Option TypeDesc).isSome = true; rw [Tryd.underlying89]; rfl, ⟨_, rfl, rfl, rfl, _, rfl, rfl⟩, rfl, ⟨_, _, rfl, rfl, rfl⟩⟩
theorem ty90 : TI.ok Tryd.prog 90 ⟨.other, 1, 8, false, [.nilFunc]⟩ := ⟨by show (_ : Option TypeDesc).isSome = true; rw [Tryd.underlying90]; rfl, ⟨_, rfl, rfl, rfl, _, rfl, rfl⟩, rfl, ⟨_, _, rfl, rfl, rfl⟩⟩
theorem ty91 : TI.ok Tryd.prog 91 ⟨.other, 1, 8, false, [.nilFunc]⟩ := ⟨by show (_ : Option TypeDesc).isSome = true; rw [Tryd.underlying91]; rfl, ⟨_, rfl, rfl, rfl, _, rfl, rfl⟩, rfl, ⟨_, _, rfl, rfl, rfl⟩⟩
theorem ty92 : TI.ok Tryd.prog 92 ⟨.other, 1, 8, false, [.nilFunc]⟩ := ⟨by show (_ : Option TypeDesc).isSome = true; rw [Tryd.underlying92]; rfl, ⟨_, rfl, rfl, rfl, _, rfl, rfl⟩, rfl, ⟨_, _, rfl, rfl, rfl⟩⟩
theorem ty94 : TI.ok Tryd.prog 94 ⟨.other, 1, 8, false, [.nilFunc]⟩ := ⟨by show (_ : Option TypeDesc).isSome = true; rw [Tryd.underlying94]; rfl, ⟨_, rfl, rfl, rfl, _, rfl, rfl⟩, rfl, ⟨_, _, rfl, rfl, rfl⟩⟩
theorem ty98 : TI.ok Tryd.prog 98 ⟨.other, 1, 8, false, [.nilFunc]⟩ := ⟨by show (_ : Option TypeDesc).isSome = true; rw [Tryd.underlying98]; rfl, ⟨_, rfl, rfl, rfl, _, rfl, rfl⟩, rfl, ⟨_, _, rfl, rfl, rfl⟩⟩
theorem ty99 : TI.ok Tryd.prog 99 ⟨.other, 1, 8, false, [.nilFunc]⟩ := ⟨by show (_ : Option TypeDesc).isSome = true; rw [Tryd.underlying99]; rfl, ⟨_, rfl, rfl, rfl, _, rfl, rfl⟩, rfl, ⟨_, _, rfl, rfl, rfl⟩⟩
theorem ty100 : TI.ok Tryd.prog 100 ⟨.other, 1, 8, false, [.nilFunc]⟩ := ⟨by show (_ : Option TypeDesc).isSome = true; rw [Tryd.underlying100]; rfl, ⟨_, rfl, rfl, rfl, _, rfl, rfl⟩, rfl, ⟨_, _, rfl, rfl, rfl⟩⟩
theorem ty101 : TI.ok Tryd.prog 101 ⟨.other, 1, 8, false, [.nilFunc]⟩ := ⟨by show (_ : Option TypeDesc).isSome = true; rw [Tryd.underlying101]; rfl, ⟨_, rfl, rfl, rfl, _, rfl, rfl⟩, rfl, ⟨_, _, rfl, rfl, rfl⟩⟩
theorem ty102 : TI.ok Tryd.prog 102 ⟨.slice 3, 1, 24, false, [.slice none 0 0]⟩ := ⟨Tryd.underlying102, ⟨_, rfl, rfl, rfl, _, rfl, rfl⟩, rfl, ⟨_, _, rfl, rfl, rfl⟩⟩
theorem ty103 : TI.ok Tryd.prog 103 ⟨.struct [(0, 1), (1, 1), (2, 1)], 3, 24, true, [.int .i64 0, .int .i64 0, .int .i64 0]⟩ := ⟨⟨_, Tryd.underlying103, rfl, fun i o s h => match i, h with
      | 0, h => by cases h; exact ⟨_, _, rfl, rfl, rfl, rfl, by decide⟩
      | 1, h => by cases h; exact ⟨_, _, rfl, rfl, rfl, rfl, by decide⟩
      | 2, h => by cases h; exact ⟨_, _, rfl, rfl, rfl, rfl, by decide⟩
      | n + 3, h => by simp at h⟩, ⟨_, rfl, rfl, rfl, _, rfl, rfl⟩, rfl, ⟨_, _, rfl, rfl, rfl⟩⟩
theorem ty104 : TI.ok Tryd.prog 104 ⟨.struct [(0, 1), (1, 1), (2, 1)], 3, 24, true, [.int .i64 0, .int .i64 0, .int .i64 0]⟩ := ⟨⟨_, Tryd.underlying104, rfl, fun i o s h => match i, h with
      | 0, h => by cases h; exact ⟨_, _, rfl, rfl, rfl, rfl, by decide⟩
      | 1, h => by cases h; exact ⟨_, _, rfl, rfl, rfl, rfl, by decide⟩
      | 2, h => by cases h; exact ⟨_, _, rfl, rfl, rfl, rfl, by decide⟩
      | n + 3, h => by simp at h⟩, ⟨_, rfl, rfl, rfl, _, rfl, rfl⟩, rfl, ⟨_, _, rfl, rfl, rfl⟩⟩
theorem ty105 : TI.ok Tryd.prog 105 ⟨.other, 1, 8, false, [.nilFunc]⟩ := ⟨by show (_ : Option TypeDesc).isSome = true; rw [Tryd.underlying105]; rfl, ⟨_, rfl, rfl, rfl, _, rfl, rfl⟩, rfl, ⟨_, _, rfl, rfl, rfl⟩⟩
theorem ty106 : TI.ok Tryd.prog 106 ⟨.other, 1, 8, false, [.nilFunc]⟩ := ⟨by show (_ : Option TypeDesc).isSome = true; rw [Tryd.underlying106]; rfl, ⟨_, rfl, rfl, rfl, _, rfl, rfl⟩, rfl, ⟨_, _, rfl, rfl, rfl⟩⟩
theorem ty107 : TI.ok Tryd.prog 107 ⟨.other, 1, 8, false, [.nilFunc]⟩ := ⟨by show (_ : Option TypeDesc).isSome = true; rw [Tryd.underlying107]; rfl, ⟨_, rfl, rfl, rfl, _, rfl, rfl⟩, rfl, ⟨_, _, rfl, rfl, rfl⟩⟩
theorem ty108 : TI.ok Tryd.prog 108 ⟨.other, 1, 8, false, [.nilFunc]⟩ := ⟨by show (_ : Option TypeDesc).isSome = true; rw [Tryd.underlying108]; rfl, ⟨_, rfl, rfl, rfl, _, rfl, rfl⟩, rfl, ⟨_, _, rfl, rfl, rfl⟩⟩
theorem ty109 : TI.ok Tryd.prog 109 ⟨.other, 1, 8, false, [.nilFunc]⟩ := ⟨by show (_ : Option TypeDesc).isSome = true; rw [Tryd.underlying109]; rfl, ⟨_, rfl, rfl, rfl, _, rfl, rfl⟩, rfl, ⟨_, _, rfl, rfl, rfl⟩⟩
theorem ty111 : TI.ok Tryd.prog 111 ⟨.other, 1, 8, false, [.nilFunc]⟩ := ⟨by show (_ : Option TypeDesc).isSome = true; rw [Tryd.underlying111]; rfl, ⟨_, rfl, rfl, rfl, _, rfl, rfl⟩, rfl, ⟨_, _, rfl, rfl, rfl⟩⟩
theorem ty112 : TI.ok Tryd.prog 112 ⟨.other, 1, 8, false, [.nilFunc]⟩ := ⟨by show (_ : Option TypeDesc).isSome = true; rw [Tryd.underlying112]; rfl, ⟨_, rfl, rfl, rfl, _, rfl, rfl⟩, rfl, ⟨_, _, rfl, rfl, rfl⟩⟩
theorem ty113 : TI.ok Tryd.prog 113 ⟨.other, 1, 8, false, [.nilFunc]⟩ := ⟨by show (_ : Option TypeDesc).isSome = true; rw [Tryd.underlying113]; rfl, ⟨_, rfl, rfl, rfl, _, rfl, rfl⟩, rfl, ⟨_, _, rfl, rfl, rfl⟩⟩
theorem ty114 : TI.ok Tryd.prog 114 ⟨.other, 1, 8, false, [.nilFunc]⟩ := ⟨by show (_ : Option TypeDesc).isSome = true; rw [Tryd.underlying114]; rfl, ⟨_, rfl, rfl, rfl, _, rfl, rfl⟩, rfl, ⟨_, _, rfl, rfl, rfl⟩⟩
theorem ty115 : TI.ok Tryd.prog 115 ⟨.other, 1, 8, false, [.nilFunc]⟩ := ⟨by show (_ : Option TypeDesc).isSome = true; rw [Tryd.underlying115]; rfl, ⟨_, rfl, rfl, rfl, _, rfl, rfl⟩, rfl, ⟨_, _, rfl, rfl, rfl⟩⟩
theorem ty116 : TI.ok Tryd.prog 116 ⟨.other, 1, 8, false, [.nilFunc]⟩ := ⟨by show (_ : Option TypeDesc).isSome = true; rw [Tryd.underlying116]; rfl, ⟨_, rfl, rfl, rfl, _, rfl, rfl⟩, rfl, ⟨_, _, rfl, rfl, rfl⟩⟩
theorem ty117 : TI.ok Tryd.prog 117 ⟨.other, 1, 8, false, [.nilFunc]⟩ := ⟨by show (_ : Option TypeDesc).isSome = true; rw [Tryd.underlying117]; rfl, ⟨_, rfl, rfl, rfl, _, rfl, rfl⟩, rfl, ⟨_, _, rfl, rfl, rfl⟩⟩
theorem ty118 : TI.ok Tryd.prog 118 ⟨.other, 1, 8, false, [.nilFunc]⟩ := ⟨by show (_ : Option TypeDesc).isSome = true; rw [Tryd.underlying118]; rfl, ⟨_, rfl, rfl, rfl, _, rfl, rfl⟩, rfl, ⟨_, _, rfl, rfl, rfl⟩⟩
theorem ty119 : TI.ok Tryd.prog 119 ⟨.other, 1, 8, false, [.nilFunc]⟩ := ⟨by show (_ : Option TypeDesc).isSome = true; rw [Tryd.underlying119]; rfl, ⟨_, rfl, rfl, rfl, _, rfl, rfl⟩, rfl, ⟨_, _, rfl, rfl, rfl⟩⟩
theorem ty120 : TI.ok Tryd.prog 120 ⟨.slice 78, 1, 24, false, [.slice none 0 0]⟩ := ⟨Tryd.underlying120, ⟨_, rfl, rfl, rfl, _, rfl, rfl⟩, rfl, ⟨_, _, rfl, rfl, rfl⟩⟩
theorem ty121 : TI.ok Tryd.prog 121 ⟨.other, 1, 8, false, [.nilFunc]⟩ := ⟨by show (_ : Option TypeDesc).isSome = true; rw [Tryd.underlying121]; rfl, ⟨_, rfl, rfl, rfl, _, rfl, rfl⟩, rfl, ⟨_, _, rfl, rfl, rfl⟩⟩
theorem ty122 : TI.ok Tryd.prog 122 ⟨.other, 1, 8, false, [.nilFunc]⟩ := ⟨by show (_ : Option TypeDesc).isSome = true; rw [Tryd.underlying122]; rfl, ⟨_, rfl, rfl, rfl, _, rfl, rfl⟩, rfl, ⟨_, _, rfl, rfl, rfl⟩⟩
theorem ty123 : TI.ok Tryd.prog 123 ⟨.other, 1, 8, false, [.nilFunc]⟩ := ⟨by show (_ : Option TypeDesc).isSome = true; rw [Tryd.underlying123]; rfl, ⟨_, rfl, rfl, rfl, _, rfl, rfl⟩, rfl, ⟨_, _, rfl, rfl, rfl⟩⟩
theorem ty124 : TI.ok Tryd.prog 124 ⟨.other, 1, 8, false, [.nilFunc]⟩ := ⟨by show (_ : Option TypeDesc).isSome = true; rw [Tryd.underlying124]; rfl, ⟨_, rfl, rfl, rfl, _, rfl, rfl⟩, rfl, ⟨_, _, rfl, rfl, rfl⟩⟩
theorem ty125 : TI.ok Tryd.prog 125 ⟨.other, 1, 8, false, [.nilFunc]⟩ := ⟨by show (_ : Option TypeDesc).isSome = true; rw [Tryd.underlying125]; rfl, ⟨_, rfl, rfl, rfl, _, rfl, rfl⟩, rfl, ⟨_, _, rfl, rfl, rfl⟩⟩
theorem ty126 : TI.ok Tryd.prog 126 ⟨.other, 1, 8, false, [.nilFunc]⟩ := ⟨by show (_ : Option TypeDesc).isSome = true; rw [Tryd.underlying126]; rfl, ⟨_, rfl, rfl, rfl, _, rfl, rfl⟩, rfl, ⟨_, _, rfl, rfl, rfl⟩⟩
theorem ty127 : TI.ok Tryd.prog 127 ⟨.other, 1, 8, false, [.nilFunc]⟩ := ⟨by show (_ : Option TypeDesc).isSome = true; rw [Tryd.underlying127]; rfl, ⟨_, rfl, rfl, rfl, _, rfl, rfl⟩, rfl, ⟨_, _, rfl, rfl, rfl⟩⟩
theorem ty128 : TI.ok Tryd.prog 128 ⟨.other, 1, 8, false, [.nilFunc]⟩ := ⟨by show (_ : Option TypeDesc).isSome = true; rw [Tryd.underlying128]; rfl, ⟨_, rfl, rfl, rfl, _, rfl, rfl⟩, rfl, ⟨_, _, rfl, rfl, rfl⟩⟩
theorem ty129 : TI.ok Tryd.prog 129 ⟨.other, 1, 8, false, [.nilFunc]⟩ := ⟨by show (_ : Option TypeDesc).isSome = true; rw [Tryd.underlying129]; rfl, ⟨_, rfl, rfl, rfl, _, rfl, rfl⟩, rfl, ⟨_, _, rfl, rfl, rfl⟩⟩
theorem ty130 : TI.ok Tryd.prog 130 ⟨.slice 5, 1, 24, false, [.slice none 0 0]⟩ := ⟨Tryd.underlying130, ⟨_, rfl, rfl, rfl, _, rfl, rfl⟩, rfl, ⟨_, _, rfl, rfl, rfl⟩⟩
theorem ty131 : TI.ok Tryd.prog 131 ⟨.other, 1, 8, false, [.nilFunc]⟩ := ⟨by show (_ : Option TypeDesc).isSome = true; rw [Tryd.underlying131]; rfl, ⟨_, rfl, rfl, rfl, _, rfl, rfl⟩, rfl, ⟨_, _, rfl, rfl, rfl⟩⟩
theorem ty132 : TI.ok Tryd.prog 132 ⟨.other, 1, 8, false, [.nilFunc]⟩ := ⟨by show (_ : Option TypeDesc).isSome = true; rw [Tryd.underlying132]; rfl, ⟨_, rfl, rfl, rfl, _, rfl, rfl⟩, rfl, ⟨_, _, rfl, rfl, rfl⟩⟩
theorem ty133 : TI.ok Tryd.prog 133 ⟨.other, 1, 8, false, [.nilFunc]⟩ := ⟨by show (_ : Option TypeDesc).isSome = true; rw [Tryd.underlying133]; rfl, ⟨_, rfl, rfl, rfl, _, rfl, rfl⟩, rfl, ⟨_, _, rfl, rfl, rfl⟩⟩
theorem ty134 : TI.ok Tryd.prog 134 ⟨.other, 1, 8, false, [.nilFunc]⟩ := ⟨by show (_ : Option TypeDesc).isSome = true; rw [Tryd.underlying134]; rfl, ⟨_, rfl, rfl, rfl, _, rfl, rfl⟩, rfl, ⟨_, _, rfl, rfl, rfl⟩⟩
theorem ty135 : TI.ok Tryd.prog 135 ⟨.other, 1, 8, false, [.nilFunc]⟩ := ⟨by show (_ : Option TypeDesc).isSome = true; rw [Tryd.underlying135]; rfl, ⟨_, rfl, rfl, rfl, _, rfl, rfl⟩, rfl, ⟨_, _, rfl, rfl, rfl⟩⟩
theorem ty136 : TI.ok Tryd.prog 136 ⟨.other, 1, 8, false, [.nilFunc]⟩ := ⟨by show (_ : Option TypeDesc).isSome = true; rw [Tryd.underlying136]; rfl, ⟨_, rfl, rfl, rfl, _, rfl, rfl⟩, rfl, ⟨_, _, rfl, rfl, rfl⟩⟩
theorem ty137 : TI.ok Tryd.prog 137 ⟨.other, 1, 8, false, [.nilFunc]⟩ := ⟨by show (_ : Option TypeDesc).isSome = true; rw [Tryd.underlying137]; rfl, ⟨_, rfl, rfl, rfl, _, rfl, rfl⟩, rfl, ⟨_, _, rfl, rfl, rfl⟩⟩
theorem ty138 : TI.ok Tryd.prog 138 ⟨.struct [(0, 1), (1, 1), (2, 1)], 3, 24, true, [.int .i64 0, .int .i64 0, .int .i64 0]⟩ := ⟨⟨_, Tryd.underlying138, rfl, fun i o s h => match i, h with
      | 0, h => by cases h; exact ⟨_, _, rfl, rfl, rfl, rfl, by decide⟩
      | 1, h => by cases h; exact ⟨_, _, rfl, rfl, rfl, rfl, by decide⟩
      | 2, h => by cases h; exact ⟨_, _, rfl, rfl, rfl, rfl, by decide⟩
      | n + 3, h => by simp at h⟩, ⟨_, rfl, rfl, rfl, _, rfl, rfl⟩, rfl, ⟨_, _, rfl, rfl, rfl⟩⟩
theorem ty139 : TI.ok Tryd.prog 139 ⟨.other, 1, 8, false, [.nilFunc]⟩ := ⟨by show (_ : Option TypeDesc).isSome = true; rw [Tryd.underlying139]; rfl, ⟨_, rfl, rfl, rfl, _, rfl, rfl⟩, rfl, ⟨_, _, rfl, rfl, rfl⟩⟩
theorem ty140 : TI.ok Tryd.prog 140 ⟨.other, 1, 8, false, [.nilFunc]⟩ := ⟨by show (_ : Option TypeDesc).isSome = true; rw [Tryd.underlying140]; rfl, ⟨_, rfl, rfl, rfl, _, rfl, rfl⟩, rfl, ⟨_, _, rfl, rfl, rfl⟩⟩
theorem ty141 : TI.ok Tryd.prog 141 ⟨.other, 1, 8, false, [.nilFunc]⟩ := ⟨by show (_ : Option TypeDesc).isSome = true; rw [Tryd.underlying141]; rfl, ⟨_, rfl, rfl, rfl, _, rfl, rfl⟩, rfl, ⟨_, _, rfl, rfl, rfl⟩⟩
theorem ty142 : TI.ok Tryd.prog 142 ⟨.other, 1, 8, false, [.nilFunc]⟩ := ⟨by show (_ : Option TypeDesc).isSome = true; rw [Tryd.underlying142]; rfl, ⟨_, rfl, rfl, rfl, _, rfl, rfl⟩, rfl, ⟨_, _, rfl, rfl, rfl⟩⟩
theorem ty143 : TI.ok Tryd.prog 143 ⟨.other, 1, 8, false, [.nilFunc]⟩ := ⟨by show (_ : Option TypeDesc).isSome = true; rw [Tryd.underlying143]; rfl, ⟨_, rfl, rfl, rfl, _, rfl, rfl⟩, rfl, ⟨_, _, rfl, rfl, rfl⟩⟩
theorem ty144 : TI.ok Tryd.prog 144 ⟨.other, 1, 8, false, [.nilFunc]⟩ := ⟨by show (_ : Option TypeDesc).isSome = true; rw [Tryd.underlying144]; rfl, ⟨_, rfl, rfl, rfl, _, rfl, rfl⟩, rfl, ⟨_, _, rfl, rfl, rfl⟩⟩
theorem ty145 : TI.ok Tryd.prog 145 ⟨.other, 1, 8, false, [.nilFunc]⟩ := ⟨by show (_ : Option TypeDesc).isSome = true; rw [Tryd.underlying145]; rfl, ⟨_, rfl, rfl, rfl, _, rfl, rfl⟩, rfl, ⟨_, _, rfl, rfl, rfl⟩⟩
theorem ty146 : TI.ok Tryd.prog 146 ⟨.other, 1, 8, false, [.nilFunc]⟩ := ⟨by show (_ : Option TypeDesc).isSome = true; rw [Tryd.underlying146]; rfl, ⟨_, rfl, rfl, rfl, _, rfl, rfl⟩, rfl, ⟨_, _, rfl, rfl, rfl⟩⟩
theorem ty147 : TI.ok Tryd.prog 147 ⟨.other, 1, 8, false, [.nilFunc]⟩ := ⟨by show (_ : Option TypeDesc).isSome = true; rw [Tryd.underlying147]; rfl, ⟨_, rfl, rfl, rfl, _, rfl, rfl⟩, rfl, ⟨_, _, rfl, rfl, rfl⟩⟩
theorem ty148 : TI.ok Tryd.prog 148 ⟨.slice 4, 1, 24, false, [.slice none 0 0]⟩ := ⟨Tryd.underlying148, ⟨_, rfl, rfl, rfl, _, rfl, rfl⟩, rfl, ⟨_, _, rfl, rfl, rfl⟩⟩
theorem ty150 : TI.ok Tryd.prog 150 ⟨.other, 1, 8, false, [.nilFunc]⟩ := ⟨by show (_ : Option TypeDesc).isSome = true; rw [Tryd.underlying150]; rfl, ⟨_, rfl, rfl, rfl, _, rfl, rfl⟩, rfl, ⟨_, _, rfl, rfl, rfl⟩⟩
theorem ty151 : TI.ok Tryd.prog 151 ⟨.other, 1, 8, false, [.nilFunc]⟩ := ⟨by show (_ : Option TypeDesc).isSome = true; rw [Tryd.underlying151]; rfl, ⟨_, rfl, rfl, rfl, _, rfl, rfl⟩, rfl, ⟨_, _, rfl, rfl, rfl⟩⟩
theorem ty152 : TI.ok Tryd.prog 152 ⟨.other, 1, 8, false, [.nilFunc]⟩ := ⟨by show (_ : Option TypeDesc).isSome = true; rw [Tryd.underlying152]; rfl, ⟨_, rfl, rfl, rfl, _, rfl, rfl⟩, rfl, ⟨_, _, rfl, rfl, rfl⟩⟩
theorem ty153 : TI.ok Tryd.prog 153 ⟨.other, 1, 8, false, [.nilFunc]⟩ := ⟨by show (_ : Option TypeDesc).isSome = true; rw [Tryd.underlying153]; rfl, ⟨_, rfl, rfl, rfl, _, rfl, rfl⟩, rfl, ⟨_, _, rfl, rfl, rfl⟩⟩
theorem ty154 : TI.ok Tryd.prog 154 ⟨.other, 1, 8, false, [.nilFunc]⟩ := ⟨by show (_ : Option TypeDesc).isSome = true; rw [Tryd.underlying154]; rfl, ⟨_, rfl, rfl, rfl, _, rfl, rfl⟩, rfl, ⟨_, _, rfl, rfl, rfl⟩⟩
theorem ty155 : TI.ok Tryd.prog 155 ⟨.other, 1, 8, false, [.nilFunc]⟩ := ⟨by show (_ : Option TypeDesc).isSome = true; rw [Tryd.underlying155]; rfl, ⟨_, rfl, rfl, rfl, _, rfl, rfl⟩, rfl, ⟨_, _, rfl, rfl, rfl⟩⟩
theorem ty156 : TI.ok Tryd.prog 156 ⟨.int .u64, 1, 8, false, [.int .u64 0]⟩ := ⟨Tryd.underlying156, ⟨_, rfl, rfl, rfl, _, rfl, rfl⟩, rfl, ⟨_, _, rfl, rfl, rfl⟩⟩
theorem ty158 : TI.ok Tryd.prog 158 ⟨.other, 1, 8, false, [.nilFunc]⟩ := ⟨by show (_ : Option TypeDesc).isSome = true; rw [Tryd.underlying158]; rfl, ⟨_, rfl, rfl, rfl, _, rfl, rfl⟩, rfl, ⟨_, _, rfl, rfl, rfl⟩⟩
theorem ty159 : TI.ok Tryd.prog 159 ⟨.other, 1, 8, false, [.nilFunc]⟩ := ⟨by show (_ : Option TypeDesc).isSome = true; rw [Tryd.underlying159]; rfl, ⟨_, rfl, rfl, rfl, _, rfl, rfl⟩, rfl, ⟨_, _, rfl, rfl, rfl⟩⟩
theorem ty160 : TI.ok Tryd.prog 160 ⟨.other, 1, 8, false, [.pointer none]⟩ := ⟨by show (_ : Option TypeDesc).isSome = true; rw [Tryd.underlying160]; rfl, ⟨_, rfl, rfl, rfl, _, rfl, rfl⟩, rfl, ⟨_, _, rfl, rfl, rfl⟩⟩
theorem ty161 : TI.ok Tryd.prog 161 ⟨.struct [(0, 1), (1, 1)], 2, 32, true, [.pointer none, .slice none 0 0]⟩ := ⟨⟨_, Tryd.underlying161, rfl, fun i o s h => match i, h with
      | 0, h => by cases h; exact ⟨_, _, rfl, rfl, rfl, rfl, by decide⟩
      | 1, h => by cases h; exact ⟨_, _, rfl, rfl, rfl, rfl, by decide⟩
      | n + 2, h => by simp at h⟩, ⟨_, rfl, rfl, rfl, _, rfl, rfl⟩, rfl, ⟨_, _, rfl, rfl, rfl⟩⟩
theorem ty162 : TI.ok Tryd.prog 162 ⟨.struct [(0, 1), (1, 1)], 2, 32, true, [.pointer none, .slice none 0 0]⟩ := ⟨⟨_, Tryd.underlying162, rfl, fun i o s h => match i, h with
      | 0, h => by cases h; exact ⟨_, _, rfl, rfl, rfl, rfl, by decide⟩
      | 1, h => by cases h; exact ⟨_, _, rfl, rfl, rfl, rfl, by decide⟩
      | n + 2, h => by simp at h⟩, ⟨_, rfl, rfl, rfl, _, rfl, rfl⟩, rfl, ⟨_, _, rfl, rfl, rfl⟩⟩
theorem ty163 : TI.ok Tryd.prog 163 ⟨.other, 1, 8, false, [.nilFunc]⟩ := ⟨by show (_ : Option TypeDesc).isSome = true; rw [Tryd.underlying163]; rfl, ⟨_, rfl, rfl, rfl, _, rfl, rfl⟩, rfl, ⟨_, _, rfl, rfl, rfl⟩⟩
theorem ty164 : TI.ok Tryd.prog 164 ⟨.other, 1, 8, false, [.nilFunc]⟩ := ⟨by show (_ : Option TypeDesc).isSome = true; rw [Tryd.underlying164]; rfl, ⟨_, rfl, rfl, rfl, _, rfl, rfl⟩, rfl, ⟨_, _, rfl, rfl, rfl⟩⟩
theorem ty165 : TI.ok Tryd.prog 165 ⟨.other, 1, 8, false, [.nilFunc]⟩ := ⟨by show (_ : Option TypeDesc).isSome = true; rw [Tryd.underlying165]; rfl, ⟨_, rfl, rfl, rfl, _, rfl, rfl⟩, rfl, ⟨_, _, rfl, rfl, rfl⟩⟩
theorem ty166 : TI.ok Tryd.prog 166 ⟨.other, 1, 8, false, [.nilFunc]⟩ := ⟨by show (_ : Option TypeDesc).isSome = true; rw [Tryd.underlying166]; rfl, ⟨_, rfl, rfl, rfl, _, rfl, rfl⟩, rfl, ⟨_, _, rfl, rfl, rfl⟩⟩
theorem ty167 : TI.ok Tryd.prog 167 ⟨.other, 1, 8, false, [.nilFunc]⟩ := ⟨by show (_ : Option TypeDesc).isSome = true; rw [Tryd.underlying167]; rfl, ⟨_, rfl, rfl, rfl, _, rfl, rfl⟩, rfl, ⟨_, _, rfl, rfl, rfl⟩⟩
theorem ty168 : TI.ok Tryd.prog 168 ⟨.int .i64, 1, 8, false, [.int .i64 0]⟩ := ⟨Tryd.underlying168, ⟨_, rfl, rfl, rfl, _, rfl, rfl⟩, rfl, ⟨_, _, rfl, rfl, rfl⟩⟩
theorem ty170 : TI.ok Tryd.prog 170 ⟨.other, 1, 8, false, [.nilFunc]⟩ := ⟨by show (_ : Option TypeDesc).isSome = true; rw [Tryd.underlying170]; rfl, ⟨_, rfl, rfl, rfl, _, rfl, rfl⟩, rfl, ⟨_, _, rfl, rfl, rfl⟩⟩
theorem ty171 : TI.ok Tryd.prog 171 ⟨.other, 1, 8, false, [.pointer none]⟩ := ⟨by show (_ : Option TypeDesc).isSome = true; rw [Tryd.underlying171]; rfl, ⟨_, rfl, rfl, rfl, _, rfl, rfl⟩, rfl, ⟨_, _, rfl, rfl, rfl⟩⟩
theorem ty172 : TI.ok Tryd.prog 172 ⟨.other, 1, 8, false, [.nilFunc]⟩ := ⟨by show (_ : Option TypeDesc).isSome = true; rw [Tryd.underlying172]; rfl, ⟨_, rfl, rfl, rfl, _, rfl, rfl⟩, rfl, ⟨_, _, rfl, rfl, rfl⟩⟩
theorem ty173 : TI.ok Tryd.prog 173 ⟨.other, 1, 8, false, [.nilFunc]⟩ := ⟨by show (_ : Option TypeDesc).isSome = true; rw [Tryd.underlying173]; rfl, ⟨_, rfl, rfl, rfl, _, rfl, rfl⟩, rfl, ⟨_, _, rfl, rfl, rfl⟩⟩
theorem ty175 : TI.ok Tryd.prog 175 ⟨.other, 1, 8, false, [.nilFunc]⟩ := ⟨by show (_ : Option TypeDesc).isSome = true; rw [Tryd.underlying175]; rfl, ⟨_, rfl, rfl, rfl, _, rfl, rfl⟩, rfl, ⟨_, _, rfl, rfl, rfl⟩⟩
theorem ty176 : TI.ok Tryd.prog 176 ⟨.other, 1, 8, false, [.nilFunc]⟩ := ⟨by show (_ : Option TypeDesc).isSome = true; rw [Tryd.underlying176]; rfl, ⟨_, rfl, rfl, rfl, _, rfl, rfl⟩, rfl, ⟨_, _, rfl, rfl, rfl⟩⟩
theorem ty177 : TI.ok Tryd.prog 177 ⟨.other, 1, 8, false, [.nilFunc]⟩ := ⟨by show (_ : Option TypeDesc).isSome = true; rw [Tryd.underlying177]; rfl, ⟨_, rfl, rfl, rfl, _, rfl, rfl⟩, rfl, ⟨_, _, rfl, rfl, rfl⟩⟩
theorem ty181 : TI.ok Tryd.prog 181 ⟨.other, 1, 8, false, [.nilFunc]⟩ := ⟨by show (_ : Option TypeDesc).isSome = true; rw [Tryd.underlying181]; rfl, ⟨_, rfl, rfl, rfl, _, rfl, rfl⟩, rfl, ⟨_, _, rfl, rfl, rfl⟩⟩
theorem ty182 : TI.ok Tryd.prog 182 ⟨.other, 1, 8, false, [.nilFunc]⟩ := ⟨by show (_ : Option TypeDesc).isSome = true; rw [Tryd.underlying182]; rfl, ⟨_, rfl, rfl, rfl, _, rfl, rfl⟩, rfl, ⟨_, _, rfl, rfl, rfl⟩⟩
theorem ty183 : TI.ok Tryd.prog 183 ⟨.other, 1, 8, false, [.pointer none]⟩ := ⟨by show (_ : Option TypeDesc).isSome = true; rw [Tryd.underlying183]; rfl, ⟨_, rfl, rfl, rfl, _, rfl, rfl⟩, rfl, ⟨_, _, rfl, rfl, rfl⟩⟩
theorem ty184 : TI.ok Tryd.prog 184 ⟨.int .u32, 1, 4, false, [.int .u32 0]⟩ := ⟨Tryd.underlying184, ⟨_, rfl, rfl, rfl, _, rfl, rfl⟩, rfl, ⟨_, _, rfl, rfl, rfl⟩⟩
theorem ty186 : TI.ok Tryd.prog 186 ⟨.other, 1, 8, false, [.nilFunc]⟩ := ⟨by show (_ : Option TypeDesc).isSome = true; rw [Tryd.underlying186]; rfl, ⟨_, rfl, rfl, rfl, _, rfl, rfl⟩, rfl, ⟨_, _, rfl, rfl, rfl⟩⟩
theorem ty187 : TI.ok Tryd.prog 187 ⟨.int .u64, 1, 8, false, [.int .u64 0]⟩ := ⟨Tryd.underlying187, ⟨_, rfl, rfl, rfl, _, rfl, rfl⟩, rfl, ⟨_, _, rfl, rfl, rfl⟩⟩
theorem ty189 : TI.ok Tryd.prog 189 ⟨.other, 1, 8, false, [.nilFunc]⟩ := ⟨by show (_ : Option TypeDesc).isSome = true; rw [Tryd.underlying189]; rfl, ⟨_, rfl, rfl, rfl, _, rfl, rfl⟩, rfl, ⟨_, _, rfl, rfl, rfl⟩⟩
theorem ty190 : TI.ok Tryd.prog 190 ⟨.other, 1, 8, false, [.pointer none]⟩ := ⟨by show (_ : Option TypeDesc).isSome = true; rw [Tryd.underlying190]; rfl, ⟨_, rfl, rfl, rfl, _, rfl, rfl⟩, rfl, ⟨_, _, rfl, rfl, rfl⟩⟩
theorem ty191 : TI.ok Tryd.prog 191 ⟨.other, 1, 8, false, [.nilFunc]⟩ := ⟨by show (_ : Option TypeDesc).isSome = true; rw [Tryd.underlying191]; rfl, ⟨_, rfl, rfl, rfl, _, rfl, rfl⟩, rfl, ⟨_, _, rfl, rfl, rfl⟩⟩
theorem ty192 : TI.ok Tryd.prog 192 ⟨.other, 1, 8, false, [.nilFunc]⟩ := ⟨by show (_ : Option TypeDesc).isSome = true; rw [Tryd.underlying192]; rfl, ⟨_, rfl, rfl, rfl, _, rfl, rfl⟩, rfl, ⟨_, _, rfl, rfl, rfl⟩⟩
theorem ty194 : TI.ok Tryd.prog 194 ⟨.other, 1, 8, false, [.nilFunc]⟩ := ⟨by show (_ : Option TypeDesc).isSome = true; rw [Tryd.underlying194]; rfl, ⟨_, rfl, rfl, rfl, _, rfl, rfl⟩, rfl, ⟨_, _, rfl, rfl, rfl⟩⟩
theorem ty195 : TI.ok Tryd.prog 195 ⟨.struct [(0, 1), (1, 1), (2, 1)], 3, 48, true, [.string ⟨#[]⟩, .string ⟨#[]⟩, .nilIface]⟩ := ⟨⟨_, Tryd.underlying195, rfl, fun i o s h => match i, h with
      | 0, h => by cases h; exact ⟨_, _, rfl, rfl, rfl, rfl, by decide⟩
      | 1, h => by cases h; exact ⟨_, _, rfl, rfl, rfl, rfl, by decide⟩
      | 2, h => by cases h; exact ⟨_, _, rfl, rfl, rfl, rfl, by decide⟩
      | n + 3, h => by simp at h⟩, ⟨_, rfl, rfl, rfl, _, rfl, rfl⟩, rfl, ⟨_, _, rfl, rfl, rfl⟩⟩
theorem ty196 : TI.ok Tryd.prog 196 ⟨.struct [(0, 1), (1, 1), (2, 1)], 3, 48, true, [.string ⟨#[]⟩, .string ⟨#[]⟩, .nilIface]⟩ := ⟨⟨_, Tryd.underlying196, rfl, fun i o s h => match i, h with
      | 0, h => by cases h; exact ⟨_, _, rfl, rfl, rfl, rfl, by decide⟩
      | 1, h => by cases h; exact ⟨_, _, rfl, rfl, rfl, rfl, by decide⟩
      | 2, h => by cases h; exact ⟨_, _, rfl, rfl, rfl, rfl, by decide⟩
      | n + 3, h => by simp at h⟩, ⟨_, rfl, rfl, rfl, _, rfl, rfl⟩, rfl, ⟨_, _, rfl, rfl, rfl⟩⟩
theorem ty197 : TI.ok Tryd.prog 197 ⟨.other, 1, 8, false, [.nilFunc]⟩ := ⟨by show (_ : Option TypeDesc).isSome = true; rw [Tryd.underlying197]; rfl, ⟨_, rfl, rfl, rfl, _, rfl, rfl⟩, rfl, ⟨_, _, rfl, rfl, rfl⟩⟩
theorem ty198 : TI.ok Tryd.prog 198 ⟨.other, 1, 8, false, [.nilFunc]⟩ := ⟨by show (_ : Option TypeDesc).isSome = true; rw [Tryd.underlying198]; rfl, ⟨_, rfl, rfl, rfl, _, rfl, rfl⟩, rfl, ⟨_, _, rfl, rfl, rfl⟩⟩
theorem ty199 : TI.ok Tryd.prog 199 ⟨.other, 1, 8, false, [.nilFunc]⟩ := ⟨by show (_ : Option TypeDesc).isSome = true; rw [Tryd.underlying199]; rfl, ⟨_, rfl, rfl, rfl, _, rfl, rfl⟩, rfl, ⟨_, _, rfl, rfl, rfl⟩⟩
theorem ty201 : TI.ok Tryd.prog 201 ⟨.other, 1, 8, false, [.nilFunc]⟩ := ⟨by show (_ : Option TypeDesc).isSome = true; rw [Tryd.underlying201]; rfl, ⟨_, rfl, rfl, rfl, _, rfl, rfl⟩, rfl, ⟨_, _, rfl, rfl, rfl⟩⟩
theorem ty202 : TI.ok Tryd.prog 202 ⟨.other, 1, 8, false, [.nilFunc]⟩ := ⟨by show (_ : Option TypeDesc).isSome = true; rw [Tryd.underlying202]; rfl, ⟨_, rfl, rfl, rfl, _, rfl, rfl⟩, rfl, ⟨_, _, rfl, rfl, rfl⟩⟩
theorem ty203 : TI.ok Tryd.prog 203 ⟨.other, 1, 8, false, [.nilFunc]⟩ := ⟨by show (_ : Option TypeDesc).isSome = true; rw [Tryd.underlying203]; rfl, ⟨_, rfl, rfl, rfl, _, rfl, rfl⟩, rfl, ⟨_, _, rfl, rfl, rfl⟩⟩
theorem ty205 : TI.ok Tryd.prog 205 ⟨.other, 1, 8, false, [.nilFunc]⟩ := ⟨by show (_ : Option TypeDesc).isSome = true; rw [Tryd.underlying205]; rfl, ⟨_, rfl, rfl, rfl, _, rfl, rfl⟩, rfl, ⟨_, _, rfl, rfl, rfl⟩⟩
theorem ty206 : TI.ok Tryd.prog 206 ⟨.other, 1, 8, false, [.nilFunc]⟩ := ⟨by show (_ : Option TypeDesc).isSome = true; rw [Tryd.underlying206]; rfl, ⟨_, rfl, rfl, rfl, _, rfl, rfl⟩, rfl, ⟨_, _, rfl, rfl, rfl⟩⟩
theorem ty208 : TI.ok Tryd.prog 208 ⟨.other, 1, 8, false, [.nilFunc]⟩ := ⟨by show (_ : Option TypeDesc).isSome = true; rw [Tryd.underlying208]; rfl, ⟨_, rfl, rfl, rfl, _, rfl, rfl⟩, rfl, ⟨_, _, rfl, rfl, rfl⟩⟩
theorem ty209 : TI.ok Tryd.prog 209 ⟨.other, 1, 8, false, [.pointer none]⟩ := ⟨by show (_ : Option TypeDesc).isSome = true; rw [Tryd.underlying209]; rfl, ⟨_, rfl, rfl, rfl, _, rfl, rfl⟩, rfl, ⟨_, _, rfl, rfl, rfl⟩⟩
theorem ty210 : TI.ok Tryd.prog 210 ⟨.struct [(0, 1)], 1, 16, true, [.string ⟨#[]⟩]⟩ := ⟨⟨_, Tryd.underlying210, rfl, fun i o s h => match i, h with
      | 0, h => by cases h; exact ⟨_, _, rfl, rfl, rfl, rfl, by decide⟩
      | n + 1, h => by simp at h⟩, ⟨_, rfl, rfl, rfl, _, rfl, rfl⟩, rfl, ⟨_, _, rfl, rfl, rfl⟩⟩
theorem ty211 : TI.ok Tryd.prog 211 ⟨.struct [(0, 1)], 1, 16, true, [.string ⟨#[]⟩]⟩ := ⟨⟨_, Tryd.underlying211, rfl, fun i o s h => match i, h with
      | 0, h => by cases h; exact ⟨_, _, rfl, rfl, rfl, rfl, by decide⟩
      | n + 1, h => by simp at h⟩, ⟨_, rfl, rfl, rfl, _, rfl, rfl⟩, rfl, ⟨_, _, rfl, rfl, rfl⟩⟩
theorem ty213 : TI.ok Tryd.prog 213 ⟨.struct [(0, 1), (1, 1)], 2, 2, true, [.int .u8 0, .int .u8 0]⟩ := ⟨⟨_, Tryd.underlying213, rfl, fun i o s h => match i, h with
      | 0, h => by cases h; exact ⟨_, _, rfl, rfl, rfl, rfl, by decide⟩
      | 1, h => by cases h; exact ⟨_, _, rfl, rfl, rfl, rfl, by decide⟩
      | n + 2, h => by simp at h⟩, ⟨_, rfl, rfl, rfl, _, rfl, rfl⟩, rfl, ⟨_, _, rfl, rfl, rfl⟩⟩
theorem ty214 : TI.ok Tryd.prog 214 ⟨.struct [(0, 1), (1, 1)], 2, 2, true, [.int .u8 0, .int .u8 0]⟩ := ⟨⟨_, Tryd.underlying214, rfl, fun i o s h => match i, h with
      | 0, h => by cases h; exact ⟨_, _, rfl, rfl, rfl, rfl, by decide⟩
      | 1, h => by cases h; exact ⟨_, _, rfl, rfl, rfl, rfl, by decide⟩
      | n + 2, h => by simp at h⟩, ⟨_, rfl, rfl, rfl, _, rfl, rfl⟩, rfl, ⟨_, _, rfl, rfl, rfl⟩⟩
theorem ty216 : TI.ok Tryd.prog 216 ⟨.other, 1, 8, false, [.nilFunc]⟩ := ⟨by show (_ : Option TypeDesc).isSome = true; rw [Tryd.underlying216]; rfl, ⟨_, rfl, rfl, rfl, _, rfl, rfl⟩, rfl, ⟨_, _, rfl, rfl, rfl⟩⟩
theorem ty217 : TI.ok Tryd.prog 217 ⟨.other, 1, 8, false, [.nilFunc]⟩ := ⟨by show (_ : Option TypeDesc).isSome = true; rw [Tryd.underlying217]; rfl, ⟨_, rfl, rfl, rfl, _, rfl, rfl⟩, rfl, ⟨_, _, rfl, rfl, rfl⟩⟩
theorem ty220 : TI.ok Tryd.prog 220 ⟨.other, 1, 8, false, [.nilFunc]⟩ := ⟨by show (_ : Option TypeDesc).isSome = true; rw [Tryd.underlying220]; rfl, ⟨_, rfl, rfl, rfl, _, rfl, rfl⟩, rfl, ⟨_, _, rfl, rfl, rfl⟩⟩
theorem ty221 : TI.ok Tryd.prog 221 ⟨.other, 1, 8, false, [.nilFunc]⟩ := ⟨by show (_ : Option TypeDesc).isSome = true; rw [Tryd.underlying221]; rfl, ⟨_, rfl, rfl, rfl, _, rfl, rfl⟩, rfl, ⟨_, _, rfl, rfl, rfl⟩⟩
theorem ty222 : TI.ok Tryd.prog 222 ⟨.other, 1, 8, false, [.nilFunc]⟩ := ⟨by show (_ : Option TypeDesc).isSome = true; rw [Tryd.underlying222]; rfl, ⟨_, rfl, rfl, rfl, _, rfl, rfl⟩, rfl, ⟨_, _, rfl, rfl, rfl⟩⟩
theorem ty225 : TI.ok Tryd.prog 225 ⟨.struct [(0, 1), (1, 1), (2, 1), (3, 1)], 4, 40, true, [.pointer none, .pointer none, .pointer none, .string ⟨#[]⟩]⟩ := ⟨⟨_, Tryd.underlying225, rfl, fun i o s h => match i, h with
      | 0, h => by cases h; exact ⟨_, _, rfl, rfl, rfl, rfl, by decide⟩
      | 1, h => by cases h; exact ⟨_, _, rfl, rfl, rfl, rfl, by decide⟩
      | 2, h => by cases h; exact ⟨_, _, rfl, rfl, rfl, rfl, by decide⟩
      | 3, h => by cases h; exact ⟨_, _, rfl, rfl, rfl, rfl, by decide⟩
      | n + 4, h => by simp at h⟩, ⟨_, rfl, rfl, rfl, _, rfl, rfl⟩, rfl, ⟨_, _, rfl, rfl, rfl⟩⟩
theorem ty226 : TI.ok Tryd.prog 226 ⟨.struct [(0, 1), (1, 1), (2, 1), (3, 1)], 4, 40, true, [.pointer none, .pointer none, .pointer none, .string ⟨#[]⟩]⟩ := ⟨⟨_, Tryd.underlying226, rfl, fun i o s h => match i, h with
      | 0, h => by cases h; exact ⟨_, _, rfl, rfl, rfl, rfl, by decide⟩
      | 1, h => by cases h; exact ⟨_, _, rfl, rfl, rfl, rfl, by decide⟩
      | 2, h => by cases h; exact ⟨_, _, rfl, rfl, rfl, rfl, by decide⟩
      | 3, h => by cases h; exact ⟨_, _, rfl, rfl, rfl, rfl, by decide⟩
      | n + 4, h => by simp at h⟩, ⟨_, rfl, rfl, rfl, _, rfl, rfl⟩, rfl, ⟨_, _, rfl, rfl, rfl⟩⟩
theorem ty230 : TI.ok Tryd.prog 230 ⟨.int .u8, 1, 1, false, [.int .u8 0]⟩ := ⟨Tryd.underlying230, ⟨_, rfl, rfl, rfl, _, rfl, rfl⟩, rfl, ⟨_, _, rfl, rfl, rfl⟩⟩
theorem ty231 : TI.ok Tryd.prog 231 ⟨.int .u8, 1, 1, false, [.int .u8 0]⟩ := ⟨Tryd.underlying231, ⟨_, rfl, rfl, rfl, _, rfl, rfl⟩, rfl, ⟨_, _, rfl, rfl, rfl⟩⟩
theorem ty232 : TI.ok Tryd.prog 232 ⟨.other, 1, 8, false, [.nilFunc]⟩ := ⟨by show (_ : Option TypeDesc).isSome = true; rw [Tryd.underlying232]; rfl, ⟨_, rfl, rfl, rfl, _, rfl, rfl⟩, rfl, ⟨_, _, rfl, rfl, rfl⟩⟩
theorem ty233 : TI.ok Tryd.prog 233 ⟨.int .i32, 1, 4, false, [.int .i32 0]⟩ := ⟨Tryd.underlying233, ⟨_, rfl, rfl, rfl, _, rfl, rfl⟩, rfl, ⟨_, _, rfl, rfl, rfl⟩⟩
theorem ty234 : TI.ok Tryd.prog 234 ⟨.int .i32, 1, 4, false, [.int .i32 0]⟩ := ⟨Tryd.underlying234, ⟨_, rfl, rfl, rfl, _, rfl, rfl⟩, rfl, ⟨_, _, rfl, rfl, rfl⟩⟩
def tt : Ty := [
  (2, ⟨.int .i64, 1, 8, false, [.int .i64 0]⟩),
  (3, ⟨.int .i64, 1, 8, false, [.int .i64 0]⟩),
  (4, ⟨.bool, 1, 1, false, [.bool false]⟩),
  (5, ⟨.int .u8, 1, 1, false, [.int .u8 0]⟩),
  (6, ⟨.int .u8, 1, 1, false, [.int .u8 0]⟩),
  (9, ⟨.str, 1, 16, false, [.string ⟨#[]⟩]⟩),
  (10, ⟨.str, 1, 16, false, [.string ⟨#[]⟩]⟩),
  (11, ⟨.str, 1, 16, false, [.string ⟨#[]⟩]⟩),
  (12, ⟨.int .u64, 1, 8, false, [.int .u64 0]⟩),
  (21, ⟨.int .i32, 1, 4, false, [.int .i32 0]⟩),
  (156, ⟨.int .u64, 1, 8, false, [.int .u64 0]⟩),
  (168, ⟨.int .i64, 1, 8, false, [.int .i64 0]⟩),
  (184, ⟨.int .u32, 1, 4, false, [.int .u32 0]⟩),
  (187, ⟨.int .u64, 1, 8, false, [.int .u64 0]⟩),
  (230, ⟨.int .u8, 1, 1, false, [.int .u8 0]⟩),
  (231, ⟨.int .u8, 1, 1, false, [.int .u8 0]⟩),
  (233, ⟨.int .i32, 1, 4, false, [.int .i32 0]⟩),
  (234, ⟨.int .i32, 1, 4, false, [.int .i32 0]⟩),
  (7, ⟨.struct [(0, 1), (1, 1), (2, 1), (3, 1)], 4, 24, true, [.int .i64 0, .int .i64 0, .bool false, .int .u8 0]⟩),
  (8, ⟨.struct [(0, 1), (1, 1), (2, 1), (3, 1)], 4, 24, true, [.int .i64 0, .int .i64 0, .bool false, .int .u8 0]⟩),
  (13, ⟨.struct [(0, 1), (1, 1)], 2, 24, true, [.string ⟨#[]⟩, .int .u64 0]⟩),
  (14, ⟨.struct [(0, 1), (1, 1)], 2, 24, true, [.string ⟨#[]⟩, .int .u64 0]⟩),
  (18, ⟨.struct [(0, 1)], 1, 8, true, [.pointer none]⟩),
  (19, ⟨.struct [(0, 1)], 1, 8, true, [.pointer none]⟩),
  (29, ⟨.slice 138, 1, 24, false, [.slice none 0 0]⟩),
  (30, ⟨.struct [(0, 1), (1, 1)], 2, 32, true, [.int .i64 0, .slice none 0 0]⟩),
  (31, ⟨.struct [(0, 1), (1, 1)], 2, 32, true, [.int .i64 0, .slice none 0 0]⟩),
  (34, ⟨.slice 104, 1, 24, false, [.slice none 0 0]⟩),
  (35, ⟨.struct [(0, 1), (1, 1)], 2, 32, true, [.int .i64 0, .slice none 0 0]⟩),
  (36, ⟨.struct [(0, 1), (1, 1)], 2, 32, true, [.int .i64 0, .slice none 0 0]⟩),
  (43, ⟨.struct [(0, 1), (1, 1)], 2, 32, true, [.string ⟨#[]⟩, .string ⟨#[]⟩]⟩),
  (44, ⟨.struct [(0, 1), (1, 1)], 2, 32, true, [.string ⟨#[]⟩, .string ⟨#[]⟩]⟩),
  (47, ⟨.struct [(0, 1), (1, 1)], 2, 32, true, [.string ⟨#[]⟩, .string ⟨#[]⟩]⟩),
  (50, ⟨.struct [(0, 1), (1, 1), (2, 1)], 3, 3, true, [.bool false, .bool false, .bool false]⟩),
  (51, ⟨.struct [(0, 1), (1, 1), (2, 1)], 3, 3, true, [.bool false, .bool false, .bool false]⟩),
  (52, ⟨.struct [(0, 1), (1, 1)], 2, 16, true, [.int .i64 0, .int .i64 0]⟩),
  (53, ⟨.struct [(0, 1), (1, 1)], 2, 16, true, [.int .i64 0, .int .i64 0]⟩),
  (54, ⟨.slice 53, 1, 24, false, [.slice none 0 0]⟩),
  (76, ⟨.map 9 3, 1, 8, false, [.map none]⟩),
  (77, ⟨.map 9 3, 1, 8, false, [.map none]⟩),
  (78, ⟨.slice 9, 1, 24, false, [.slice none 0 0]⟩),
  (83, ⟨.struct [(0, 1), (1, 1)], 2, 24, true, [.string ⟨#[]⟩, .int .i64 0]⟩),
  (84, ⟨.struct [(0, 1), (1, 1)], 2, 24, true, [.string ⟨#[]⟩, .int .i64 0]⟩),
  (102, ⟨.slice 3, 1, 24, false, [.slice none 0 0]⟩),
  (103, ⟨.struct [(0, 1), (1, 1), (2, 1)], 3, 24, true, [.int .i64 0, .int .i64 0, .int .i64 0]⟩),
  (104, ⟨.struct [(0, 1), (1, 1), (2, 1)], 3, 24, true, [.int .i64 0, .int .i64 0, .int .i64 0]⟩),
  (120, ⟨.slice 78, 1, 24, false, [.slice none 0 0]⟩),
  (130, ⟨.slice 5, 1, 24, false, [.slice none 0 0]⟩),
  (138, ⟨.struct [(0, 1), (1, 1), (2, 1)], 3, 24, true, [.int .i64 0, .int .i64 0, .int .i64 0]⟩),
  (148, ⟨.slice 4, 1, 24, false, [.slice none 0 0]⟩),
  (161, ⟨.struct [(0, 1), (1, 1)], 2, 32, true, [.pointer none, .slice none 0 0]⟩),
  (162, ⟨.struct [(0, 1), (1, 1)], 2, 32, true, [.pointer none, .slice none 0 0]⟩),
  (195, ⟨.struct [(0, 1), (1, 1), (2, 1)], 3, 48, true, [.string ⟨#[]⟩, .string ⟨#[]⟩, .nilIface]⟩),
  (196, ⟨.struct [(0, 1), (1, 1), (2, 1)], 3, 48, true, [.string ⟨#[]⟩, .string ⟨#[]⟩, .nilIface]⟩),
  (210, ⟨.struct [(0, 1)], 1, 16, true, [.string ⟨#[]⟩]⟩),
  (211, ⟨.struct [(0, 1)], 1, 16, true, [.string ⟨#[]⟩]⟩),
  (213, ⟨.struct [(0, 1), (1, 1)], 2, 2, true, [.int .u8 0, .int .u8 0]⟩),
  (214, ⟨.struct [(0, 1), (1, 1)], 2, 2, true, [.int .u8 0, .int .u8 0]⟩),
  (225, ⟨.struct [(0, 1), (1, 1), (2, 1), (3, 1)], 4, 40, true, [.pointer none, .pointer none, .pointer none, .string ⟨#[]⟩]⟩),
  (226, ⟨.struct [(0, 1), (1, 1), (2, 1), (3, 1)], 4, 40, true, [.pointer none, .pointer none, .pointer none, .string ⟨#[]⟩]⟩),
  (1, ⟨.other, 1, 8, false, [.nilFunc]⟩),
  (15, ⟨.other, 1, 8, false, [.pointer none]⟩),
  (16, ⟨.other, 1, 8, false, [.pointer none]⟩),
  (17, ⟨.other, 1, 8, false, [.pointer none]⟩),
  (23, ⟨.other, 1, 8, false, [.nilFunc]⟩),
  (24, ⟨.other, 1, 8, false, [.nilFunc]⟩),
  (26, ⟨.other, 1, 8, false, [.nilFunc]⟩),
  (27, ⟨.other, 1, 8, false, [.nilFunc]⟩),
  (28, ⟨.other, 1, 8, false, [.nilFunc]⟩),
  (32, ⟨.other, 1, 8, false, [.nilFunc]⟩),
  (33, ⟨.other, 1, 8, false, [.nilFunc]⟩),
  (37, ⟨.other, 1, 8, false, [.nilFunc]⟩),
  (38, ⟨.other, 1, 8, false, [.nilFunc]⟩),
  (39, ⟨.other, 1, 8, false, [.nilFunc]⟩),
  (41, ⟨.other, 1, 8, false, [.nilFunc]⟩),
  (42, ⟨.other, 1, 8, false, [.nilFunc]⟩),
  (45, ⟨.other, 1, 8, false, [.nilFunc]⟩),
  (46, ⟨.other, 1, 8, false, [.nilFunc]⟩),
  (48, ⟨.other, 1, 8, false, [.nilFunc]⟩),
  (49, ⟨.other, 1, 8, false, [.nilFunc]⟩),
  (56, ⟨.other, 1, 8, false, [.nilFunc]⟩),
  (57, ⟨.other, 1, 8, false, [.nilFunc]⟩),
  (58, ⟨.other, 1, 8, false, [.nilFunc]⟩),
  (59, ⟨.other, 1, 8, false, [.nilFunc]⟩),
  (60, ⟨.other, 1, 8, false, [.nilFunc]⟩),
  (62, ⟨.other, 1, 8, false, [.nilFunc]⟩),
  (63, ⟨.other, 1, 8, false, [.nilFunc]⟩),
  (64, ⟨.other, 1, 8, false, [.nilFunc]⟩),
  (65, ⟨.other, 1, 8, false, [.nilFunc]⟩),
  (67, ⟨.other, 1, 8, false, [.nilFunc]⟩),
  (68, ⟨.other, 1, 8, false, [.nilFunc]⟩),
  (69, ⟨.other, 1, 8, false, [.nilFunc]⟩),
  (70, ⟨.other, 1, 8, false, [.nilFunc]⟩),
  (71, ⟨.other, 1, 8, false, [.nilFunc]⟩),
  (72, ⟨.other, 1, 8, false, [.nilFunc]⟩),
  (73, ⟨.other, 1, 8, false, [.nilFunc]⟩),
  (74, ⟨.other, 1, 8, false, [.nilFunc]⟩),
  (75, ⟨.other, 1, 8, false, [.nilFunc]⟩),
  (80, ⟨.other, 1, 8, false, [.nilFunc]⟩),
  (81, ⟨.other, 1, 8, false, [.nilFunc]⟩),
  (82, ⟨.other, 1, 8, false, [.nilFunc]⟩),
  (85, ⟨.other, 1, 8, false, [.nilFunc]⟩),
  (86, ⟨.other, 1, 8, false, [.nilFunc]⟩),
  (87, ⟨.other, 1, 8, false, [.nilFunc]⟩),
  (88, ⟨.other, 1, 8, false, [.nilFunc]⟩),
  (89, ⟨.other, 1, 8, false, [.nilFunc]⟩),
  (90, ⟨.other, 1, 8, false, [.nilFunc]⟩),
  (91, ⟨.other, 1, 8, false, [.nilFunc]⟩),
  (92, ⟨.other, 1, 8, false, [.nilFunc]⟩),
  (94, ⟨.other, 1, 8, false, [.nilFunc]⟩),
  (98, ⟨.other, 1, 8, false, [.nilFunc]⟩),
  (99, ⟨.other, 1, 8, false, [.nilFunc]⟩),
  (100, ⟨.other, 1, 8, false, [.nilFunc]⟩),
  (101, ⟨.other, 1, 8, false, [.nilFunc]⟩),
  (105, ⟨.other, 1, 8, false, [.nilFunc]⟩),
  (106, ⟨.other, 1, 8, false, [.nilFunc]⟩),
  (107, ⟨.other, 1, 8, false, [.nilFunc]⟩),
  (108, ⟨.other, 1, 8, false, [.nilFunc]⟩),
  (109, ⟨.other, 1, 8, false, [.nilFunc]⟩),
  (111, ⟨.other, 1, 8, false, [.nilFunc]⟩),
  (112, ⟨.other, 1, 8, false, [.nilFunc]⟩),
  (113, ⟨.other, 1, 8, false, [.nilFunc]⟩),
  (114, ⟨.other, 1, 8, false, [.nilFunc]⟩),
  (115, ⟨.other, 1, 8, false, [.nilFunc]⟩),
  (116, ⟨.other, 1, 8, false, [.nilFunc]⟩),
  (117, ⟨.other, 1, 8, false, [.nilFunc]⟩),
  (118, ⟨.other, 1, 8, false, [.nilFunc]⟩),
  (119, ⟨.other, 1, 8, false, [.nilFunc]⟩),
  (121, ⟨.other, 1, 8, false, [.nilFunc]⟩),
  (122, ⟨.other, 1, 8, false, [.nilFunc]⟩),
  (123, ⟨.other, 1, 8, false, [.nilFunc]⟩),
  (124, ⟨.other, 1, 8, false, [.nilFunc]⟩),
  (125, ⟨.other, 1, 8, false, [.nilFunc]⟩),
  (126, ⟨.other, 1, 8, false, [.nilFunc]⟩),
  (127, ⟨.other, 1, 8, false, [.nilFunc]⟩),
  (128, ⟨.other, 1, 8, false, [.nilFunc]⟩),
  (129, ⟨.other, 1, 8, false, [.nilFunc]⟩),
  (131, ⟨.other, 1, 8, false, [.nilFunc]⟩),
  (132, ⟨.other, 1, 8, false, [.nilFunc]⟩),
  (133, ⟨.other, 1, 8, false, [.nilFunc]⟩),
  (134, ⟨.other, 1, 8, false, [.nilFunc]⟩),
  (135, ⟨.other, 1, 8, false, [.nilFunc]⟩),
  (136, ⟨.other, 1, 8, false, [.nilFunc]⟩),
  (137, ⟨.other, 1, 8, false, [.nilFunc]⟩),
  (139, ⟨.other, 1, 8, false, [.nilFunc]⟩),
  (140, ⟨.other, 1, 8, false, [.nilFunc]⟩),
  (141, ⟨.other, 1, 8, false, [.nilFunc]⟩),
  (142, ⟨.other, 1, 8, false, [.nilFunc]⟩),
  (143, ⟨.other, 1, 8, false, [.nilFunc]⟩),
  (144, ⟨.other, 1, 8, false, [.nilFunc]⟩),
  (145, ⟨.other, 1, 8, false, [.nilFunc]⟩),
  (146, ⟨.other, 1, 8, false, [.nilFunc]⟩),
  (147, ⟨.other, 1, 8, false, [.nilFunc]⟩),
  (150, ⟨.other, 1, 8, false, [.nilFunc]⟩),
  (151, ⟨.other, 1, 8, false, [.nilFunc]⟩),
  (152, ⟨.other, 1, 8, false, [.nilFunc]⟩),
  (153, ⟨.other, 1, 8, false, [.nilFunc]⟩),
  (154, ⟨.other, 1, 8, false, [.nilFunc]⟩),
  (155, ⟨.other, 1, 8, false, [.nilFunc]⟩),
  (158, ⟨.other, 1, 8, false, [.nilFunc]⟩),
  (159, ⟨.other, 1, 8, false, [.nilFunc]⟩),
  (160, ⟨.other, 1, 8, false, [.pointer none]⟩),
  (163, ⟨.other, 1, 8, false, [.nilFunc]⟩),
  (164, ⟨.other, 1, 8, false, [.nilFunc]⟩),
  (165, ⟨.other, 1, 8, false, [.nilFunc]⟩),
  (166, ⟨.other, 1, 8, false, [.nilFunc]⟩),
  (167, ⟨.other, 1, 8, false, [.nilFunc]⟩),
  (170, ⟨.other, 1, 8, false, [.nilFunc]⟩),
  (171, ⟨.other, 1, 8, false, [.pointer none]⟩),
  (172, ⟨.other, 1, 8, false, [.nilFunc]⟩),
  (173, ⟨.other, 1, 8, false, [.nilFunc]⟩),
  (175, ⟨.other, 1, 8, false, [.nilFunc]⟩),
  (176, ⟨.other, 1, 8, false, [.nilFunc]⟩),
  (177, ⟨.other, 1, 8, false, [.nilFunc]⟩),
  (181, ⟨.other, 1, 8, false, [.nilFunc]⟩),
  (182, ⟨.other, 1, 8, false, [.nilFunc]⟩),
  (183, ⟨.other, 1, 8, false, [.pointer none]⟩),
  (186, ⟨.other, 1, 8, false, [.nilFunc]⟩),
  (189, ⟨.other, 1, 8, false, [.nilFunc]⟩),
  (190, ⟨.other, 1, 8, false, [.pointer none]⟩),
  (191, ⟨.other, 1, 8, false, [.nilFunc]⟩),
  (192, ⟨.other, 1, 8, false, [.nilFunc]⟩),
  (194, ⟨.other, 1, 8, false, [.nilFunc]⟩),
  (197, ⟨.other, 1, 8, false, [.nilFunc]⟩),
  (198, ⟨.other, 1, 8, false, [.nilFunc]⟩),
  (199, ⟨.other, 1, 8, false, [.nilFunc]⟩),
  (201, ⟨.other, 1, 8, false, [.nilFunc]⟩),
  (202, ⟨.other, 1, 8, false, [.nilFunc]⟩),
  (203, ⟨.other, 1, 8, false, [.nilFunc]⟩),
  (205, ⟨.other, 1, 8, false, [.nilFunc]⟩),
  (206, ⟨.other, 1, 8, false, [.nilFunc]⟩),
  (208, ⟨.other, 1, 8, false, [.nilFunc]⟩),
  (209, ⟨.other, 1, 8, false, [.pointer none]⟩),
  (216, ⟨.other, 1, 8, false, [.nilFunc]⟩),
  (217, ⟨.other, 1, 8, false, [.nilFunc]⟩),
  (220, ⟨.other, 1, 8, false, [.nilFunc]⟩),
  (221, ⟨.other, 1, 8, false, [.nilFunc]⟩),
  (222, ⟨.other, 1, 8, false, [.nilFunc]⟩),
  (232, ⟨.other, 1, 8, false, [.nilFunc]⟩)]
theorem tt_ok : TyOk Tryd.prog tt := tyAll_ok
  ⟨ty2, ty3, ty4, ty5, ty6, ty9, ty10, ty11, ty12, ty21, ty156, ty168, ty184, ty187, ty230, ty231, ty233, ty234, ty7, ty8, ty13, ty14, ty18, ty19, ty29, ty30, ty31, ty34, ty35, ty36, ty43, ty44, ty47, ty50, ty51, ty52, ty53, ty54, ty76, ty77, ty78, ty83, ty84, ty102, ty103, ty104, ty120, ty130, ty138, ty148, ty161, ty162, ty195, ty196, ty210, ty211, ty213, ty214, ty225, ty226, ty1, ty15, ty16, ty17, ty23, ty24, ty26, ty27, ty28, ty32, ty33, ty37, ty38, ty39, ty41, ty42, ty45, ty46, ty48, ty49, ty56, ty57, ty58, ty59, ty60, ty62, ty63, ty64, ty65, ty67, ty68, ty69, ty70, ty71, ty72, ty73, ty74, ty75, ty80, ty81, ty82, ty85, ty86, ty87, ty88, ty89, ty90, ty91, ty92, ty94, ty98, ty99, ty100, ty101, ty105, ty106, ty107, ty108, ty109, ty111, ty112, ty113, ty114, ty115, ty116, ty117, ty118, ty119, ty121, ty122, ty123, ty124, ty125, ty126, ty127, ty128, ty129, ty131, ty132, ty133, ty134, ty135, ty136, ty137, ty139, ty140, ty141, ty142, ty143, ty144, ty145, ty146, ty147, ty150, ty151, ty152, ty153, ty154, ty155, ty158, ty159, ty160, ty163, ty164, ty165, ty166, ty167, ty170, ty171, ty172, ty173, ty175, ty176, ty177, ty181, ty182, ty183, ty186, ty189, ty190, ty191, ty192, ty194, ty197, ty198, ty199, ty201, ty202, ty203, ty205, ty206, ty208, ty209, ty216, ty217, ty220, ty221, ty222, ty232, trivial⟩
end Go.Proofs.YtkieakmonaafbaaDoor.X
