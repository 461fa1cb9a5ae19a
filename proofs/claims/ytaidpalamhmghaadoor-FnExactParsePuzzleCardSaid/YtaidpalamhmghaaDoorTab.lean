/- The program's types, as the walk asks for them. No condition. -/
import Derived.Test.YtaidpalamhmghaaDoorQuiet
import Derived.Test.YtaidpalamhmghaaDoorProg
namespace Go.Proofs.YtaidpalamhmghaaDoor.X
open Go.Proofs
set_option maxRecDepth 100000
set_option linter.unusedVariables false
theorem ty1 : TI.ok Tryd.prog 1 ⟨.other, 1, 8, false, [.nilFunc]⟩ := ⟨by show (_ : Option TypeDesc).isSome = true; rw [Tryd.underlying1]; rfl, ⟨_, rfl, rfl, rfl, _, rfl, rfl⟩, rfl, ⟨_, _, rfl, rfl, rfl⟩⟩
theorem ty2 : TI.ok Tryd.prog 2 ⟨.int .i64, 1, 8, false, [.int .i64 0]⟩ := ⟨Tryd.underlying2, ⟨_, rfl, rfl, rfl, _, rfl, rfl⟩, rfl, ⟨_, _, rfl, rfl, rfl⟩⟩
theorem ty3 : TI.ok Tryd.prog 3 ⟨.int .i64, 1, 8, false, [.int .i64 0]⟩ := ⟨Tryd.underlying3, ⟨_, rfl, rfl, rfl, _, rfl, rfl⟩, rfl, ⟨_, _, rfl, rfl, rfl⟩⟩
theorem ty4 : TI.ok Tryd.prog 4 ⟨.bool, 1, 1, false, [.bool false]⟩ := ⟨Tryd.underlying4, ⟨_, rfl, rfl, rfl, _, rfl, rfl⟩, rfl, ⟨_, _, rfl, rfl, rfl⟩⟩
theorem ty5 : TI.ok Tryd.prog 5 ⟨.int .u8, 1, 1, false, [.int .u8 0]⟩ := ⟨Tryd.underlying5, ⟨_, rfl, rfl, rfl, _, rfl, rfl⟩, rfl, ⟨_, _, rfl, rfl, rfl⟩⟩
theorem ty6 : TI.ok Tryd.prog 6 ⟨.int .u8, 1, 1, false, [.int .u8 0]⟩ := ⟨Tryd.underlying6, ⟨_, rfl, rfl, rfl, _, rfl, rfl⟩, rfl, ⟨_, _, rfl, rfl, rfl⟩⟩
theorem ty7 : TI.ok Tryd.prog 7 ⟨.struct [(0, 1), (1, 1), (2, 1), (3, 1)], 4, 24, true, [.int .i64 0, .int .i64 0, .bool false, .int .u8 0]⟩ := ⟨⟨_, Tryd.underlying7, rfl, fun i o s h => match i, h with
      | 0, h => by cases h; exact ⟨_, _, rfl, rfl, rfl, rfl, by decide⟩
      | 1, h => by cases h; exact ⟨_, _, rfl, rfl, rfl, rfl, by decide⟩
      | 2, h => by cases h; exact ⟨_, _, rfl, rfl, rfl, rfl, by decide⟩
      | 3, h => by cases h; exact ⟨_, _, rfl, rfl, rfl, rfl, by decide⟩
      | n + 4, h => by simp at h⟩, ⟨_, rfl, rfl, rfl, _, rfl, rfl⟩, rfl, ⟨_, _, rfl, rfl, rfl⟩⟩
theorem ty8 : TI.ok Tryd.prog 8 ⟨.struct [(0, 1), (1, 1), (2, 1), (3, 1)], 4, 24, true, [.int .i64 0, .int .i64 0, .bool false, .int .u8 0]⟩ := ⟨⟨_, Tryd.underlying8, rfl, fun i o s h => match i, h with
      | 0, h => by cases h; exact ⟨_, _, rfl, rfl, rfl, rfl, by decide⟩
      | 1, h => by cases h; exact ⟨_, _, rfl, rfl, rfl, rfl, by decide⟩
      | 2, h => by cases h; exact ⟨_, _, rfl, rfl, rfl, rfl, by decide⟩
      | 3, h => by cases h; exact ⟨_, _, rfl, rfl, rfl, rfl, by decide⟩
      | n + 4, h => by simp at h⟩, ⟨_, rfl, rfl, rfl, _, rfl, rfl⟩, rfl, ⟨_, _, rfl, rfl, rfl⟩⟩
theorem ty9 : TI.ok Tryd.prog 9 ⟨.str, 1, 16, false, [.string ⟨#[]⟩]⟩ := ⟨Tryd.underlying9, ⟨_, rfl, rfl, rfl, _, rfl, rfl⟩, rfl, ⟨_, _, rfl, rfl, rfl⟩⟩
theorem ty10 : TI.ok Tryd.prog 10 ⟨.str, 1, 16, false, [.string ⟨#[]⟩]⟩ := ⟨Tryd.underlying10, ⟨_, rfl, rfl, rfl, _, rfl, rfl⟩, rfl, ⟨_, _, rfl, rfl, rfl⟩⟩
theorem ty11 : TI.ok Tryd.prog 11 ⟨.str, 1, 16, false, [.string ⟨#[]⟩]⟩ := ⟨Tryd.underlying11, ⟨_, rfl, rfl, rfl, _, rfl, rfl⟩, rfl, ⟨_, _, rfl, rfl, rfl⟩⟩
theorem ty12 : TI.ok Tryd.prog 12 ⟨.int .u64, 1, 8, false, [.int .u64 0]⟩ := ⟨Tryd.underlying12, ⟨_, rfl, rfl, rfl, _, rfl, rfl⟩, rfl, ⟨_, _, rfl, rfl, rfl⟩⟩
theorem ty13 : TI.ok Tryd.prog 13 ⟨.struct [(0, 1), (1, 1)], 2, 24, true, [.string ⟨#[]⟩, .int .u64 0]⟩ := ⟨⟨_, Tryd.underlying13, rfl, fun i o s h => match i, h with
      | 0, h => by cases h; exact ⟨_, _, rfl, rfl, rfl, rfl, by decide⟩
      | 1, h => by cases h; exact ⟨_, _, rfl, rfl, rfl, rfl, by decide⟩
      | n + 2, h => by simp at h⟩, ⟨_, rfl, rfl, rfl, _, rfl, rfl⟩, rfl, ⟨_, _, rfl, rfl, rfl⟩⟩
theorem ty14 : TI.ok Tryd.prog 14 ⟨.struct [(0, 1), (1, 1)], 2, 24, true, [.string ⟨#[]⟩, .int .u64 0]⟩ := ⟨⟨_, Tryd.underlying14, rfl, fun i o s h => match i, h with
      | 0, h => by cases h; exact ⟨_, _, rfl, rfl, rfl, rfl, by decide⟩
      | 1, h => by cases h; exact ⟨_, _, rfl, rfl, rfl, rfl, by decide⟩
      | n + 2, h => by simp at h⟩, ⟨_, rfl, rfl, rfl, _, rfl, rfl⟩, rfl, ⟨_, _, rfl, rfl, rfl⟩⟩
theorem ty15 : TI.ok Tryd.prog 15 ⟨.other, 1, 8, false, [.pointer none]⟩ := ⟨by show (_ : Option TypeDesc).isSome = true; rw [Tryd.underlying15]; rfl, ⟨_, rfl, rfl, rfl, _, rfl, rfl⟩, rfl, ⟨_, _, rfl, rfl, rfl⟩⟩
theorem ty16 : TI.ok Tryd.prog 16 ⟨.other, 1, 8, false, [.pointer none]⟩ := ⟨by show (_ : Option TypeDesc).isSome = true; rw [Tryd.underlying16]; rfl, ⟨_, rfl, rfl, rfl, _, rfl, rfl⟩, rfl, ⟨_, _, rfl, rfl, rfl⟩⟩
theorem ty17 : TI.ok Tryd.prog 17 ⟨.other, 1, 8, false, [.pointer none]⟩ := ⟨by show (_ : Option TypeDesc).isSome = true; rw [Tryd.underlying17]; rfl, ⟨_, rfl, rfl, rfl, _, rfl, rfl⟩, rfl, ⟨_, _, rfl, rfl, rfl⟩⟩
theorem ty18 : TI.ok Tryd.prog 18 ⟨.struct [(0, 1)], 1, 8, true, [.pointer none]⟩ := ⟨⟨_, Tryd.underlying18, rfl, fun i o s h => match i, h with
      | 0, h => by cases h; exact ⟨_, _, rfl, rfl, rfl, rfl, by decide⟩
      | n + 1, h => by simp at h⟩, ⟨_, rfl, rfl, rfl, _, rfl, rfl⟩, rfl, ⟨_, _, rfl, rfl, rfl⟩⟩
theorem ty19 : TI.ok Tryd.prog 19 ⟨.struct [(0, 1)], 1, 8, true, [.pointer none]⟩ := ⟨⟨_, Tryd.underlying19, rfl, fun i o s h => match i, h with
      | 0, h => by cases h; exact ⟨_, _, rfl, rfl, rfl, rfl, by decide⟩
      | n + 1, h => by simp at h⟩, ⟨_, rfl, rfl, rfl, _, rfl, rfl⟩, rfl, ⟨_, _, rfl, rfl, rfl⟩⟩
theorem ty21 : TI.ok Tryd.prog 21 ⟨.int .i32, 1, 4, false, [.int .i32 0]⟩ := ⟨Tryd.underlying21, ⟨_, rfl, rfl, rfl, _, rfl, rfl⟩, rfl, ⟨_, _, rfl, rfl, rfl⟩⟩
theorem ty22 : TI.ok Tryd.prog 22 ⟨.slice 70, 1, 24, false, [.slice none 0 0]⟩ := ⟨Tryd.underlying22, ⟨_, rfl, rfl, rfl, _, rfl, rfl⟩, rfl, ⟨_, _, rfl, rfl, rfl⟩⟩
theorem ty23 : TI.ok Tryd.prog 23 ⟨.struct [(0, 1), (1, 1)], 2, 32, true, [.int .i64 0, .slice none 0 0]⟩ := ⟨⟨_, Tryd.underlying23, rfl, fun i o s h => match i, h with
      | 0, h => by cases h; exact ⟨_, _, rfl, rfl, rfl, rfl, by decide⟩
      | 1, h => by cases h; exact ⟨_, _, rfl, rfl, rfl, rfl, by decide⟩
      | n + 2, h => by simp at h⟩, ⟨_, rfl, rfl, rfl, _, rfl, rfl⟩, rfl, ⟨_, _, rfl, rfl, rfl⟩⟩
theorem ty24 : TI.ok Tryd.prog 24 ⟨.struct [(0, 1), (1, 1)], 2, 32, true, [.int .i64 0, .slice none 0 0]⟩ := ⟨⟨_, Tryd.underlying24, rfl, fun i o s h => match i, h with
      | 0, h => by cases h; exact ⟨_, _, rfl, rfl, rfl, rfl, by decide⟩
      | 1, h => by cases h; exact ⟨_, _, rfl, rfl, rfl, rfl, by decide⟩
      | n + 2, h => by simp at h⟩, ⟨_, rfl, rfl, rfl, _, rfl, rfl⟩, rfl, ⟨_, _, rfl, rfl, rfl⟩⟩
theorem ty26 : TI.ok Tryd.prog 26 ⟨.other, 1, 8, false, [.nilFunc]⟩ := ⟨by show (_ : Option TypeDesc).isSome = true; rw [Tryd.underlying26]; rfl, ⟨_, rfl, rfl, rfl, _, rfl, rfl⟩, rfl, ⟨_, _, rfl, rfl, rfl⟩⟩
theorem ty27 : TI.ok Tryd.prog 27 ⟨.other, 1, 8, false, [.nilFunc]⟩ := ⟨by show (_ : Option TypeDesc).isSome = true; rw [Tryd.underlying27]; rfl, ⟨_, rfl, rfl, rfl, _, rfl, rfl⟩, rfl, ⟨_, _, rfl, rfl, rfl⟩⟩
theorem ty28 : TI.ok Tryd.prog 28 ⟨.other, 1, 8, false, [.nilFunc]⟩ := ⟨by show (_ : Option TypeDesc).isSome = true; rw [Tryd.underlying28]; rfl, ⟨_, rfl, rfl, rfl, _, rfl, rfl⟩, rfl, ⟨_, _, rfl, rfl, rfl⟩⟩
theorem ty29 : TI.ok Tryd.prog 29 ⟨.other, 1, 8, false, [.nilFunc]⟩ := ⟨by show (_ : Option TypeDesc).isSome = true; rw [Tryd.underlying29]; rfl, ⟨_, rfl, rfl, rfl, _, rfl, rfl⟩, rfl, ⟨_, _, rfl, rfl, rfl⟩⟩
theorem ty30 : TI.ok Tryd.prog 30 ⟨.struct [(0, 1), (1, 1), (2, 1)], 3, 3, true, [.bool false, .bool false, .bool false]⟩ := ⟨⟨_, Tryd.underlying30, rfl, fun i o s h => match i, h with
      | 0, h => by cases h; exact ⟨_, _, rfl, rfl, rfl, rfl, by decide⟩
      | 1, h => by cases h; exact ⟨_, _, rfl, rfl, rfl, rfl, by decide⟩
      | 2, h => by cases h; exact ⟨_, _, rfl, rfl, rfl, rfl, by decide⟩
      | n + 3, h => by simp at h⟩, ⟨_, rfl, rfl, rfl, _, rfl, rfl⟩, rfl, ⟨_, _, rfl, rfl, rfl⟩⟩
theorem ty31 : TI.ok Tryd.prog 31 ⟨.struct [(0, 1), (1, 1), (2, 1)], 3, 3, true, [.bool false, .bool false, .bool false]⟩ := ⟨⟨_, Tryd.underlying31, rfl, fun i o s h => match i, h with
      | 0, h => by cases h; exact ⟨_, _, rfl, rfl, rfl, rfl, by decide⟩
      | 1, h => by cases h; exact ⟨_, _, rfl, rfl, rfl, rfl, by decide⟩
      | 2, h => by cases h; exact ⟨_, _, rfl, rfl, rfl, rfl, by decide⟩
      | n + 3, h => by simp at h⟩, ⟨_, rfl, rfl, rfl, _, rfl, rfl⟩, rfl, ⟨_, _, rfl, rfl, rfl⟩⟩
theorem ty32 : TI.ok Tryd.prog 32 ⟨.struct [(0, 1), (1, 1)], 2, 16, true, [.int .i64 0, .int .i64 0]⟩ := ⟨⟨_, Tryd.underlying32, rfl, fun i o s h => match i, h with
      | 0, h => by cases h; exact ⟨_, _, rfl, rfl, rfl, rfl, by decide⟩
      | 1, h => by cases h; exact ⟨_, _, rfl, rfl, rfl, rfl, by decide⟩
      | n + 2, h => by simp at h⟩, ⟨_, rfl, rfl, rfl, _, rfl, rfl⟩, rfl, ⟨_, _, rfl, rfl, rfl⟩⟩
theorem ty33 : TI.ok Tryd.prog 33 ⟨.struct [(0, 1), (1, 1)], 2, 16, true, [.int .i64 0, .int .i64 0]⟩ := ⟨⟨_, Tryd.underlying33, rfl, fun i o s h => match i, h with
      | 0, h => by cases h; exact ⟨_, _, rfl, rfl, rfl, rfl, by decide⟩
      | 1, h => by cases h; exact ⟨_, _, rfl, rfl, rfl, rfl, by decide⟩
      | n + 2, h => by simp at h⟩, ⟨_, rfl, rfl, rfl, _, rfl, rfl⟩, rfl, ⟨_, _, rfl, rfl, rfl⟩⟩
theorem ty34 : TI.ok Tryd.prog 34 ⟨.slice 33, 1, 24, false, [.slice none 0 0]⟩ := ⟨Tryd.underlying34, ⟨_, rfl, rfl, rfl, _, rfl, rfl⟩, rfl, ⟨_, _, rfl, rfl, rfl⟩⟩
theorem ty36 : TI.ok Tryd.prog 36 ⟨.other, 1, 8, false, [.nilFunc]⟩ := ⟨by show (_ : Option TypeDesc).isSome = true; rw [Tryd.underlying36]; rfl, ⟨_, rfl, rfl, rfl, _, rfl, rfl⟩, rfl, ⟨_, _, rfl, rfl, rfl⟩⟩
theorem ty37 : TI.ok Tryd.prog 37 ⟨.other, 1, 8, false, [.nilFunc]⟩ := ⟨by show (_ : Option TypeDesc).isSome = true; rw [Tryd.underlying37]; rfl, ⟨_, rfl, rfl, rfl, _, rfl, rfl⟩, rfl, ⟨_, _, rfl, rfl, rfl⟩⟩
theorem ty38 : TI.ok Tryd.prog 38 ⟨.other, 1, 8, false, [.nilFunc]⟩ := ⟨by show (_ : Option TypeDesc).isSome = true; rw [Tryd.underlying38]; rfl, ⟨_, rfl, rfl, rfl, _, rfl, rfl⟩, rfl, ⟨_, _, rfl, rfl, rfl⟩⟩
theorem ty39 : TI.ok Tryd.prog 39 ⟨.other, 1, 8, false, [.nilFunc]⟩ := ⟨by show (_ : Option TypeDesc).isSome = true; rw [Tryd.underlying39]; rfl, ⟨_, rfl, rfl, rfl, _, rfl, rfl⟩, rfl, ⟨_, _, rfl, rfl, rfl⟩⟩
theorem ty40 : TI.ok Tryd.prog 40 ⟨.other, 1, 8, false, [.nilFunc]⟩ := ⟨by show (_ : Option TypeDesc).isSome = true; rw [Tryd.underlying40]; rfl, ⟨_, rfl, rfl, rfl, _, rfl, rfl⟩, rfl, ⟨_, _, rfl, rfl, rfl⟩⟩
theorem ty42 : TI.ok Tryd.prog 42 ⟨.other, 1, 8, false, [.nilFunc]⟩ := ⟨by show (_ : Option TypeDesc).isSome = true; rw [Tryd.underlying42]; rfl, ⟨_, rfl, rfl, rfl, _, rfl, rfl⟩, rfl, ⟨_, _, rfl, rfl, rfl⟩⟩
theorem ty44 : TI.ok Tryd.prog 44 ⟨.other, 1, 8, false, [.nilFunc]⟩ := ⟨by show (_ : Option TypeDesc).isSome = true; rw [Tryd.underlying44]; rfl, ⟨_, rfl, rfl, rfl, _, rfl, rfl⟩, rfl, ⟨_, _, rfl, rfl, rfl⟩⟩
theorem ty45 : TI.ok Tryd.prog 45 ⟨.other, 1, 8, false, [.nilFunc]⟩ := ⟨by show (_ : Option TypeDesc).isSome = true; rw [Tryd.underlying45]; rfl, ⟨_, rfl, rfl, rfl, _, rfl, rfl⟩, rfl, ⟨_, _, rfl, rfl, rfl⟩⟩
theorem ty46 : TI.ok Tryd.prog 46 ⟨.other, 1, 8, false, [.nilFunc]⟩ := ⟨by show (_ : Option TypeDesc).isSome = true; rw [Tryd.underlying46]; rfl, ⟨_, rfl, rfl, rfl, _, rfl, rfl⟩, rfl, ⟨_, _, rfl, rfl, rfl⟩⟩
theorem ty48 : TI.ok Tryd.prog 48 ⟨.other, 1, 8, false, [.nilFunc]⟩ := ⟨by show (_ : Option TypeDesc).isSome = true; rw [Tryd.underlying48]; rfl, ⟨_, rfl, rfl, rfl, _, rfl, rfl⟩, rfl, ⟨_, _, rfl, rfl, rfl⟩⟩
theorem ty49 : TI.ok Tryd.prog 49 ⟨.other, 1, 8, false, [.nilFunc]⟩ := ⟨by show (_ : Option TypeDesc).isSome = true; rw [Tryd.underlying49]; rfl, ⟨_, rfl, rfl, rfl, _, rfl, rfl⟩, rfl, ⟨_, _, rfl, rfl, rfl⟩⟩
theorem ty50 : TI.ok Tryd.prog 50 ⟨.other, 1, 8, false, [.nilFunc]⟩ := ⟨by show (_ : Option TypeDesc).isSome = true; rw [Tryd.underlying50]; rfl, ⟨_, rfl, rfl, rfl, _, rfl, rfl⟩, rfl, ⟨_, _, rfl, rfl, rfl⟩⟩
theorem ty51 : TI.ok Tryd.prog 51 ⟨.other, 1, 8, false, [.nilFunc]⟩ := ⟨by show (_ : Option TypeDesc).isSome = true; rw [Tryd.underlying51]; rfl, ⟨_, rfl, rfl, rfl, _, rfl, rfl⟩, rfl, ⟨_, _, rfl, rfl, rfl⟩⟩
theorem ty52 : TI.ok Tryd.prog 52 ⟨.other, 1, 8, false, [.nilFunc]⟩ := ⟨by show (_ : Option TypeDesc).isSome = true; rw [Tryd.underlying52]; rfl, ⟨_, rfl, rfl, rfl, _, rfl, rfl⟩, rfl, ⟨_, _, rfl, rfl, rfl⟩⟩
theorem ty54 : TI.ok Tryd.prog 54 ⟨.other, 1, 8, false, [.nilFunc]⟩ := ⟨by show (_ : Option TypeDesc).isSome = true; rw [Tryd.underlying54]; rfl, ⟨_, rfl, rfl, rfl, _, rfl, rfl⟩, rfl, ⟨_, _, rfl, rfl, rfl⟩⟩
theorem ty55 : TI.ok Tryd.prog 55 ⟨.other, 1, 8, false, [.nilFunc]⟩ := ⟨by show (_ : Option TypeDesc).isSome = true; rw [Tryd.underlying55]; rfl, ⟨_, rfl, rfl, rfl, _, rfl, rfl⟩, rfl, ⟨_, _, rfl, rfl, rfl⟩⟩
theorem ty56 : TI.ok Tryd.prog 56 ⟨.other, 1, 8, false, [.nilFunc]⟩ := ⟨by show (_ : Option TypeDesc).isSome = true; rw [Tryd.underlying56]; rfl, ⟨_, rfl, rfl, rfl, _, rfl, rfl⟩, rfl, ⟨_, _, rfl, rfl, rfl⟩⟩
theorem ty57 : TI.ok Tryd.prog 57 ⟨.other, 1, 8, false, [.nilFunc]⟩ := ⟨by show (_ : Option TypeDesc).isSome = true; rw [Tryd.underlying57]; rfl, ⟨_, rfl, rfl, rfl, _, rfl, rfl⟩, rfl, ⟨_, _, rfl, rfl, rfl⟩⟩
theorem ty58 : TI.ok Tryd.prog 58 ⟨.other, 1, 8, false, [.nilFunc]⟩ := ⟨by show (_ : Option TypeDesc).isSome = true; rw [Tryd.underlying58]; rfl, ⟨_, rfl, rfl, rfl, _, rfl, rfl⟩, rfl, ⟨_, _, rfl, rfl, rfl⟩⟩
theorem ty60 : TI.ok Tryd.prog 60 ⟨.other, 1, 8, false, [.nilFunc]⟩ := ⟨by show (_ : Option TypeDesc).isSome = true; rw [Tryd.underlying60]; rfl, ⟨_, rfl, rfl, rfl, _, rfl, rfl⟩, rfl, ⟨_, _, rfl, rfl, rfl⟩⟩
theorem ty64 : TI.ok Tryd.prog 64 ⟨.other, 1, 8, false, [.nilFunc]⟩ := ⟨by show (_ : Option TypeDesc).isSome = true; rw [Tryd.underlying64]; rfl, ⟨_, rfl, rfl, rfl, _, rfl, rfl⟩, rfl, ⟨_, _, rfl, rfl, rfl⟩⟩
theorem ty65 : TI.ok Tryd.prog 65 ⟨.other, 1, 8, false, [.nilFunc]⟩ := ⟨by show (_ : Option TypeDesc).isSome = true; rw [Tryd.underlying65]; rfl, ⟨_, rfl, rfl, rfl, _, rfl, rfl⟩, rfl, ⟨_, _, rfl, rfl, rfl⟩⟩
theorem ty66 : TI.ok Tryd.prog 66 ⟨.other, 1, 8, false, [.nilFunc]⟩ := ⟨by show (_ : Option TypeDesc).isSome = true; rw [Tryd.underlying66]; rfl, ⟨_, rfl, rfl, rfl, _, rfl, rfl⟩, rfl, ⟨_, _, rfl, rfl, rfl⟩⟩
theorem ty67 : TI.ok Tryd.prog 67 ⟨.other, 1, 8, false, [.nilFunc]⟩ := ⟨by show (_ : Option TypeDesc).isSome = true; rw [Tryd.underlying67]; rfl, ⟨_, rfl, rfl, rfl, _, rfl, rfl⟩, rfl, ⟨_, _, rfl, rfl, rfl⟩⟩
theorem ty68 : TI.ok Tryd.prog 68 ⟨.slice 3, 1, 24, false, [.slice none 0 0]⟩ := ⟨Tryd.underlying68, ⟨_, rfl, rfl, rfl, _, rfl, rfl⟩, rfl, ⟨_, _, rfl, rfl, rfl⟩⟩
theorem ty69 : TI.ok Tryd.prog 69 ⟨.struct [(0, 1), (1, 1), (2, 1)], 3, 24, true, [.int .i64 0, .int .i64 0, .int .i64 0]⟩ := ⟨⟨_, Tryd.underlying69, rfl, fun i o s h => match i, h with
      | 0, h => by cases h; exact ⟨_, _, rfl, rfl, rfl, rfl, by decide⟩
      | 1, h => by cases h; exact ⟨_, _, rfl, rfl, rfl, rfl, by decide⟩
      | 2, h => by cases h; exact ⟨_, _, rfl, rfl, rfl, rfl, by decide⟩
      | n + 3, h => by simp at h⟩, ⟨_, rfl, rfl, rfl, _, rfl, rfl⟩, rfl, ⟨_, _, rfl, rfl, rfl⟩⟩
theorem ty70 : TI.ok Tryd.prog 70 ⟨.struct [(0, 1), (1, 1), (2, 1)], 3, 24, true, [.int .i64 0, .int .i64 0, .int .i64 0]⟩ := ⟨⟨_, Tryd.underlying70, rfl, fun i o s h => match i, h with
      | 0, h => by cases h; exact ⟨_, _, rfl, rfl, rfl, rfl, by decide⟩
      | 1, h => by cases h; exact ⟨_, _, rfl, rfl, rfl, rfl, by decide⟩
      | 2, h => by cases h; exact ⟨_, _, rfl, rfl, rfl, rfl, by decide⟩
      | n + 3, h => by simp at h⟩, ⟨_, rfl, rfl, rfl, _, rfl, rfl⟩, rfl, ⟨_, _, rfl, rfl, rfl⟩⟩
theorem ty71 : TI.ok Tryd.prog 71 ⟨.other, 1, 8, false, [.nilFunc]⟩ := ⟨by show (_ : Option TypeDesc).isSome = true; rw [Tryd.underlying71]; rfl, ⟨_, rfl, rfl, rfl, _, rfl, rfl⟩, rfl, ⟨_, _, rfl, rfl, rfl⟩⟩
theorem ty72 : TI.ok Tryd.prog 72 ⟨.other, 1, 8, false, [.nilFunc]⟩ := ⟨by show (_ : Option TypeDesc).isSome = true; rw [Tryd.underlying72]; rfl, ⟨_, rfl, rfl, rfl, _, rfl, rfl⟩, rfl, ⟨_, _, rfl, rfl, rfl⟩⟩
theorem ty73 : TI.ok Tryd.prog 73 ⟨.other, 1, 8, false, [.nilFunc]⟩ := ⟨by show (_ : Option TypeDesc).isSome = true; rw [Tryd.underlying73]; rfl, ⟨_, rfl, rfl, rfl, _, rfl, rfl⟩, rfl, ⟨_, _, rfl, rfl, rfl⟩⟩
theorem ty74 : TI.ok Tryd.prog 74 ⟨.other, 1, 8, false, [.nilFunc]⟩ := ⟨by show (_ : Option TypeDesc).isSome = true; rw [Tryd.underlying74]; rfl, ⟨_, rfl, rfl, rfl, _, rfl, rfl⟩, rfl, ⟨_, _, rfl, rfl, rfl⟩⟩
theorem ty75 : TI.ok Tryd.prog 75 ⟨.other, 1, 8, false, [.nilFunc]⟩ := ⟨by show (_ : Option TypeDesc).isSome = true; rw [Tryd.underlying75]; rfl, ⟨_, rfl, rfl, rfl, _, rfl, rfl⟩, rfl, ⟨_, _, rfl, rfl, rfl⟩⟩
theorem ty76 : TI.ok Tryd.prog 76 ⟨.other, 1, 8, false, [.nilFunc]⟩ := ⟨by show (_ : Option TypeDesc).isSome = true; rw [Tryd.underlying76]; rfl, ⟨_, rfl, rfl, rfl, _, rfl, rfl⟩, rfl, ⟨_, _, rfl, rfl, rfl⟩⟩
theorem ty77 : TI.ok Tryd.prog 77 ⟨.other, 1, 8, false, [.nilFunc]⟩ := ⟨by show (_ : Option TypeDesc).isSome = true; rw [Tryd.underlying77]; rfl, ⟨_, rfl, rfl, rfl, _, rfl, rfl⟩, rfl, ⟨_, _, rfl, rfl, rfl⟩⟩
theorem ty78 : TI.ok Tryd.prog 78 ⟨.other, 1, 8, false, [.nilFunc]⟩ := ⟨by show (_ : Option TypeDesc).isSome = true; rw [Tryd.underlying78]; rfl, ⟨_, rfl, rfl, rfl, _, rfl, rfl⟩, rfl, ⟨_, _, rfl, rfl, rfl⟩⟩
theorem ty80 : TI.ok Tryd.prog 80 ⟨.other, 1, 8, false, [.nilFunc]⟩ := ⟨by show (_ : Option TypeDesc).isSome = true; rw [Tryd.underlying80]; rfl, ⟨_, rfl, rfl, rfl, _, rfl, rfl⟩, rfl, ⟨_, _, rfl, rfl, rfl⟩⟩
theorem ty81 : TI.ok Tryd.prog 81 ⟨.other, 1, 8, false, [.nilFunc]⟩ := ⟨by show (_ : Option TypeDesc).isSome = true; rw [Tryd.underlying81]; rfl, ⟨_, rfl, rfl, rfl, _, rfl, rfl⟩, rfl, ⟨_, _, rfl, rfl, rfl⟩⟩
theorem ty82 : TI.ok Tryd.prog 82 ⟨.other, 1, 8, false, [.nilFunc]⟩ := ⟨by show (_ : Option TypeDesc).isSome = true; rw [Tryd.underlying82]; rfl, ⟨_, rfl, rfl, rfl, _, rfl, rfl⟩, rfl, ⟨_, _, rfl, rfl, rfl⟩⟩
theorem ty83 : TI.ok Tryd.prog 83 ⟨.slice 9, 1, 24, false, [.slice none 0 0]⟩ := ⟨Tryd.underlying83, ⟨_, rfl, rfl, rfl, _, rfl, rfl⟩, rfl, ⟨_, _, rfl, rfl, rfl⟩⟩
theorem ty85 : TI.ok Tryd.prog 85 ⟨.other, 1, 8, false, [.nilFunc]⟩ := ⟨by show (_ : Option TypeDesc).isSome = true; rw [Tryd.underlying85]; rfl, ⟨_, rfl, rfl, rfl, _, rfl, rfl⟩, rfl, ⟨_, _, rfl, rfl, rfl⟩⟩
theorem ty86 : TI.ok Tryd.prog 86 ⟨.other, 1, 8, false, [.nilFunc]⟩ := ⟨by show (_ : Option TypeDesc).isSome = true; rw [Tryd.underlying86]; rfl, ⟨_, rfl, rfl, rfl, _, rfl, rfl⟩, rfl, ⟨_, _, rfl, rfl, rfl⟩⟩
theorem ty87 : TI.ok Tryd.prog 87 ⟨.other, 1, 8, false, [.nilFunc]⟩ := ⟨by show (_ : Option TypeDesc).isSome = true; rw [Tryd.underlying87]; rfl, ⟨_, rfl, rfl, rfl, _, rfl, rfl⟩, rfl, ⟨_, _, rfl, rfl, rfl⟩⟩
theorem ty88 : TI.ok Tryd.prog 88 ⟨.struct [(0, 1), (1, 1)], 2, 24, true, [.string ⟨#[]⟩, .int .i64 0]⟩ := ⟨⟨_, Tryd.underlying88, rfl, fun i o s h => match i, h with
      | 0, h => by cases h; exact ⟨_, _, rfl, rfl, rfl, rfl, by decide⟩
      | 1, h => by cases h; exact ⟨_, _, rfl, rfl, rfl, rfl, by decide⟩
      | n + 2, h => by simp at h⟩, ⟨_, rfl, rfl, rfl, _, rfl, rfl⟩, rfl, ⟨_, _, rfl, rfl, rfl⟩⟩
theorem ty89 : TI.ok Tryd.prog 89 ⟨.struct [(0, 1), (1, 1)], 2, 24, true, [.string ⟨#[]⟩, .int .i64 0]⟩ := ⟨⟨_, Tryd.underlying89, rfl, fun i o s h => match i, h with
      | 0, h => by cases h; exact ⟨_, _, rfl, rfl, rfl, rfl, by decide⟩
      | 1, h => by cases h; exact ⟨_, _, rfl, rfl, rfl, rfl, by decide⟩
      | n + 2, h => by simp at h⟩, ⟨_, rfl, rfl, rfl, _, rfl, rfl⟩, rfl, ⟨_, _, rfl, rfl, rfl⟩⟩
theorem ty90 : TI.ok Tryd.prog 90 ⟨.other, 1, 8, false, [.nilFunc]⟩ := ⟨by show (_ : Option TypeDesc).isSome = true; rw [Tryd.underlying90]; rfl, ⟨_, rfl, rfl, rfl, _, rfl, rfl⟩, rfl, ⟨_, _, rfl, rfl, rfl⟩⟩
theorem ty91 : TI.ok Tryd.prog 91 ⟨.other, 1, 8, false, [.nilFunc]⟩ := ⟨by show (_ : Option TypeDesc).isSome = true; rw [Tryd.underlying91]; rfl, ⟨_, rfl, rfl, rfl, _, rfl, rfl⟩, rfl, ⟨_, _, rfl, rfl, rfl⟩⟩
theorem ty92 : TI.ok Tryd.prog 92 ⟨.other, 1, 8, false, [.nilFunc]⟩ := ⟨by show (_ : Option TypeDesc).isSome = true; rw [Tryd.underlying92]; rfl, ⟨_, rfl, rfl, rfl, _, rfl, rfl⟩, rfl, ⟨_, _, rfl, rfl, rfl⟩⟩
theorem ty93 : TI.ok Tryd.prog 93 ⟨.other, 1, 8, false, [.nilFunc]⟩ := ⟨by show (_ : Option TypeDesc).isSome = true; rw [Tryd.underlying93]; rfl, ⟨_, rfl, rfl, rfl, _, rfl, rfl⟩, rfl, ⟨_, _, rfl, rfl, rfl⟩⟩
theorem ty94 : TI.ok Tryd.prog 94 ⟨.other, 1, 8, false, [.nilFunc]⟩ := ⟨by show (_ : Option TypeDesc).isSome = true; rw [Tryd.underlying94]; rfl, ⟨_, rfl, rfl, rfl, _, rfl, rfl⟩, rfl, ⟨_, _, rfl, rfl, rfl⟩⟩
theorem ty95 : TI.ok Tryd.prog 95 ⟨.other, 1, 8, false, [.nilFunc]⟩ := ⟨by show (_ : Option TypeDesc).isSome = true; rw [Tryd.underlying95]; rfl, ⟨_, rfl, rfl, rfl, _, rfl, rfl⟩, rfl, ⟨_, _, rfl, rfl, rfl⟩⟩
theorem ty96 : TI.ok Tryd.prog 96 ⟨.other, 1, 8, false, [.nilFunc]⟩ := ⟨by show (_ : Option TypeDesc).isSome = true; rw [Tryd.underlying96]; rfl, ⟨_, rfl, rfl, rfl, _, rfl, rfl⟩, rfl, ⟨_, _, rfl, rfl, rfl⟩⟩
theorem ty97 : TI.ok Tryd.prog 97 ⟨.other, 1, 8, false, [.nilFunc]⟩ := ⟨by show (_ : Option TypeDesc).isSome = true; rw [Tryd.underlying97]; rfl, ⟨_, rfl, rfl, rfl, _, rfl, rfl⟩, rfl, ⟨_, _, rfl, rfl, rfl⟩⟩
theorem ty98 : TI.ok Tryd.prog 98 ⟨.other, 1, 8, false, [.nilFunc]⟩ := ⟨by show (_ : Option TypeDesc).isSome = true; rw [Tryd.underlying98]; rfl, ⟨_, rfl, rfl, rfl, _, rfl, rfl⟩, rfl, ⟨_, _, rfl, rfl, rfl⟩⟩
theorem ty99 : TI.ok Tryd.prog 99 ⟨.other, 1, 8, false, [.nilFunc]⟩ := ⟨by show (_ : Option TypeDesc).isSome = true; rw [Tryd.underlying99]; rfl, ⟨_, rfl, rfl, rfl, _, rfl, rfl⟩, rfl, ⟨_, _, rfl, rfl, rfl⟩⟩
theorem ty100 : TI.ok Tryd.prog 100 ⟨.other, 1, 8, false, [.nilFunc]⟩ := ⟨by show (_ : Option TypeDesc).isSome = true; rw [Tryd.underlying100]; rfl, ⟨_, rfl, rfl, rfl, _, rfl, rfl⟩, rfl, ⟨_, _, rfl, rfl, rfl⟩⟩
theorem ty101 : TI.ok Tryd.prog 101 ⟨.other, 1, 8, false, [.nilFunc]⟩ := ⟨by show (_ : Option TypeDesc).isSome = true; rw [Tryd.underlying101]; rfl, ⟨_, rfl, rfl, rfl, _, rfl, rfl⟩, rfl, ⟨_, _, rfl, rfl, rfl⟩⟩
theorem ty102 : TI.ok Tryd.prog 102 ⟨.other, 1, 8, false, [.nilFunc]⟩ := ⟨by show (_ : Option TypeDesc).isSome = true; rw [Tryd.underlying102]; rfl, ⟨_, rfl, rfl, rfl, _, rfl, rfl⟩, rfl, ⟨_, _, rfl, rfl, rfl⟩⟩
theorem ty103 : TI.ok Tryd.prog 103 ⟨.other, 1, 8, false, [.nilFunc]⟩ := ⟨by show (_ : Option TypeDesc).isSome = true; rw [Tryd.underlying103]; rfl, ⟨_, rfl, rfl, rfl, _, rfl, rfl⟩, rfl, ⟨_, _, rfl, rfl, rfl⟩⟩
theorem ty104 : TI.ok Tryd.prog 104 ⟨.other, 1, 8, false, [.nilFunc]⟩ := ⟨by show (_ : Option TypeDesc).isSome = true; rw [Tryd.underlying104]; rfl, ⟨_, rfl, rfl, rfl, _, rfl, rfl⟩, rfl, ⟨_, _, rfl, rfl, rfl⟩⟩
theorem ty105 : TI.ok Tryd.prog 105 ⟨.other, 1, 8, false, [.nilFunc]⟩ := ⟨by show (_ : Option TypeDesc).isSome = true; rw [Tryd.underlying105]; rfl, ⟨_, rfl, rfl, rfl, _, rfl, rfl⟩, rfl, ⟨_, _, rfl, rfl, rfl⟩⟩
theorem ty106 : TI.ok Tryd.prog 106 ⟨.other, 1, 8, false, [.nilFunc]⟩ := ⟨by show (_ : Option TypeDesc).isSome = true; rw [Tryd.underlying106]; rfl, ⟨_, rfl, rfl, rfl, _, rfl, rfl⟩, rfl, ⟨_, _, rfl, rfl, rfl⟩⟩
theorem ty107 : TI.ok Tryd.prog 107 ⟨.other, 1, 8, false, [.nilFunc]⟩ := ⟨by show (_ : Option TypeDesc).isSome = true; rw [Tryd.underlying107]; rfl, ⟨_, rfl, rfl, rfl, _, rfl, rfl⟩, rfl, ⟨_, _, rfl, rfl, rfl⟩⟩
theorem ty108 : TI.ok Tryd.prog 108 ⟨.other, 1, 8, false, [.nilFunc]⟩ := ⟨by show (_ : Option TypeDesc).isSome = true; rw [Tryd.underlying108]; rfl, ⟨_, rfl, rfl, rfl, _, rfl, rfl⟩, rfl, ⟨_, _, rfl, rfl, rfl⟩⟩
theorem ty109 : TI.ok Tryd.prog 109 ⟨.other, 1, 8, false, [.nilFunc]⟩ := ⟨by show (_ : Option TypeDesc).isSome = true; rw [Tryd.underlying109]; rfl, ⟨_, rfl, rfl, rfl, _, rfl, rfl⟩, rfl, ⟨_, _, rfl, rfl, rfl⟩⟩
theorem ty110 : TI.ok Tryd.prog 110 ⟨.other, 1, 8, false, [.nilFunc]⟩ := ⟨by show (_ : Option TypeDesc).isSome = true; rw [Tryd.underlying110]; rfl, ⟨_, rfl, rfl, rfl, _, rfl, rfl⟩, rfl, ⟨_, _, rfl, rfl, rfl⟩⟩
theorem ty111 : TI.ok Tryd.prog 111 ⟨.other, 1, 8, false, [.nilFunc]⟩ := ⟨by show (_ : Option TypeDesc).isSome = true; rw [Tryd.underlying111]; rfl, ⟨_, rfl, rfl, rfl, _, rfl, rfl⟩, rfl, ⟨_, _, rfl, rfl, rfl⟩⟩
theorem ty112 : TI.ok Tryd.prog 112 ⟨.slice 5, 1, 24, false, [.slice none 0 0]⟩ := ⟨Tryd.underlying112, ⟨_, rfl, rfl, rfl, _, rfl, rfl⟩, rfl, ⟨_, _, rfl, rfl, rfl⟩⟩
theorem ty113 : TI.ok Tryd.prog 113 ⟨.other, 1, 8, false, [.nilFunc]⟩ := ⟨by show (_ : Option TypeDesc).isSome = true; rw [Tryd.underlying113]; rfl, ⟨_, rfl, rfl, rfl, _, rfl, rfl⟩, rfl, ⟨_, _, rfl, rfl, rfl⟩⟩
theorem ty114 : TI.ok Tryd.prog 114 ⟨.slice 4, 1, 24, false, [.slice none 0 0]⟩ := ⟨Tryd.underlying114, ⟨_, rfl, rfl, rfl, _, rfl, rfl⟩, rfl, ⟨_, _, rfl, rfl, rfl⟩⟩
theorem ty115 : TI.ok Tryd.prog 115 ⟨.other, 1, 8, false, [.nilFunc]⟩ := ⟨by show (_ : Option TypeDesc).isSome = true; rw [Tryd.underlying115]; rfl, ⟨_, rfl, rfl, rfl, _, rfl, rfl⟩, rfl, ⟨_, _, rfl, rfl, rfl⟩⟩
theorem ty116 : TI.ok Tryd.prog 116 ⟨.other, 1, 8, false, [.nilFunc]⟩ := ⟨by show (_ : Option TypeDesc).isSome = true; rw [Tryd.underlying116]; rfl, ⟨_, rfl, rfl, rfl, _, rfl, rfl⟩, rfl, ⟨_, _, rfl, rfl, rfl⟩⟩
theorem ty117 : TI.ok Tryd.prog 117 ⟨.other, 1, 8, false, [.nilFunc]⟩ := ⟨by show (_ : Option TypeDesc).isSome = true; rw [Tryd.underlying117]; rfl, ⟨_, rfl, rfl, rfl, _, rfl, rfl⟩, rfl, ⟨_, _, rfl, rfl, rfl⟩⟩
theorem ty118 : TI.ok Tryd.prog 118 ⟨.other, 1, 8, false, [.nilFunc]⟩ := ⟨by show (_ : Option TypeDesc).isSome = true; rw [Tryd.underlying118]; rfl, ⟨_, rfl, rfl, rfl, _, rfl, rfl⟩, rfl, ⟨_, _, rfl, rfl, rfl⟩⟩
theorem ty119 : TI.ok Tryd.prog 119 ⟨.other, 1, 8, false, [.nilFunc]⟩ := ⟨by show (_ : Option TypeDesc).isSome = true; rw [Tryd.underlying119]; rfl, ⟨_, rfl, rfl, rfl, _, rfl, rfl⟩, rfl, ⟨_, _, rfl, rfl, rfl⟩⟩
theorem ty120 : TI.ok Tryd.prog 120 ⟨.other, 1, 8, false, [.nilFunc]⟩ := ⟨by show (_ : Option TypeDesc).isSome = true; rw [Tryd.underlying120]; rfl, ⟨_, rfl, rfl, rfl, _, rfl, rfl⟩, rfl, ⟨_, _, rfl, rfl, rfl⟩⟩
theorem ty122 : TI.ok Tryd.prog 122 ⟨.other, 1, 8, false, [.nilFunc]⟩ := ⟨by show (_ : Option TypeDesc).isSome = true; rw [Tryd.underlying122]; rfl, ⟨_, rfl, rfl, rfl, _, rfl, rfl⟩, rfl, ⟨_, _, rfl, rfl, rfl⟩⟩
theorem ty123 : TI.ok Tryd.prog 123 ⟨.other, 1, 8, false, [.nilFunc]⟩ := ⟨by show (_ : Option TypeDesc).isSome = true; rw [Tryd.underlying123]; rfl, ⟨_, rfl, rfl, rfl, _, rfl, rfl⟩, rfl, ⟨_, _, rfl, rfl, rfl⟩⟩
theorem ty124 : TI.ok Tryd.prog 124 ⟨.other, 1, 8, false, [.nilFunc]⟩ := ⟨by show (_ : Option TypeDesc).isSome = true; rw [Tryd.underlying124]; rfl, ⟨_, rfl, rfl, rfl, _, rfl, rfl⟩, rfl, ⟨_, _, rfl, rfl, rfl⟩⟩
theorem ty125 : TI.ok Tryd.prog 125 ⟨.other, 1, 8, false, [.nilFunc]⟩ := ⟨by show (_ : Option TypeDesc).isSome = true; rw [Tryd.underlying125]; rfl, ⟨_, rfl, rfl, rfl, _, rfl, rfl⟩, rfl, ⟨_, _, rfl, rfl, rfl⟩⟩
theorem ty126 : TI.ok Tryd.prog 126 ⟨.other, 1, 8, false, [.nilFunc]⟩ := ⟨by show (_ : Option TypeDesc).isSome = true; rw [Tryd.underlying126]; rfl, ⟨_, rfl, rfl, rfl, _, rfl, rfl⟩, rfl, ⟨_, _, rfl, rfl, rfl⟩⟩
theorem ty127 : TI.ok Tryd.prog 127 ⟨.other, 1, 8, false, [.nilFunc]⟩ := ⟨by show (_ : Option TypeDesc).isSome = true; rw [Tryd.underlying127]; rfl, ⟨_, rfl, rfl, rfl, _, rfl, rfl⟩, rfl, ⟨_, _, rfl, rfl, rfl⟩⟩
theorem ty128 : TI.ok Tryd.prog 128 ⟨.other, 1, 8, false, [.nilFunc]⟩ := ⟨by show (_ : Option TypeDesc).isSome = true; rw [Tryd.underlying128]; rfl, ⟨_, rfl, rfl, rfl, _, rfl, rfl⟩, rfl, ⟨_, _, rfl, rfl, rfl⟩⟩
theorem ty129 : TI.ok Tryd.prog 129 ⟨.other, 1, 8, false, [.nilFunc]⟩ := ⟨by show (_ : Option TypeDesc).isSome = true; rw [Tryd.underlying129]; rfl, ⟨_, rfl, rfl, rfl, _, rfl, rfl⟩, rfl, ⟨_, _, rfl, rfl, rfl⟩⟩
theorem ty130 : TI.ok Tryd.prog 130 ⟨.int .i64, 1, 8, false, [.int .i64 0]⟩ := ⟨Tryd.underlying130, ⟨_, rfl, rfl, rfl, _, rfl, rfl⟩, rfl, ⟨_, _, rfl, rfl, rfl⟩⟩
theorem ty132 : TI.ok Tryd.prog 132 ⟨.other, 1, 8, false, [.nilFunc]⟩ := ⟨by show (_ : Option TypeDesc).isSome = true; rw [Tryd.underlying132]; rfl, ⟨_, rfl, rfl, rfl, _, rfl, rfl⟩, rfl, ⟨_, _, rfl, rfl, rfl⟩⟩
theorem ty133 : TI.ok Tryd.prog 133 ⟨.other, 1, 8, false, [.pointer none]⟩ := ⟨by show (_ : Option TypeDesc).isSome = true; rw [Tryd.underlying133]; rfl, ⟨_, rfl, rfl, rfl, _, rfl, rfl⟩, rfl, ⟨_, _, rfl, rfl, rfl⟩⟩
theorem ty134 : TI.ok Tryd.prog 134 ⟨.other, 1, 8, false, [.nilFunc]⟩ := ⟨by show (_ : Option TypeDesc).isSome = true; rw [Tryd.underlying134]; rfl, ⟨_, rfl, rfl, rfl, _, rfl, rfl⟩, rfl, ⟨_, _, rfl, rfl, rfl⟩⟩
theorem ty135 : TI.ok Tryd.prog 135 ⟨.other, 1, 8, false, [.nilFunc]⟩ := ⟨by show (_ : Option TypeDesc).isSome = true; rw [Tryd.underlying135]; rfl, ⟨_, rfl, rfl, rfl, _, rfl, rfl⟩, rfl, ⟨_, _, rfl, rfl, rfl⟩⟩
theorem ty137 : TI.ok Tryd.prog 137 ⟨.other, 1, 8, false, [.nilFunc]⟩ := ⟨by show (_ : Option TypeDesc).isSome = true; rw [Tryd.underlying137]; rfl, ⟨_, rfl, rfl, rfl, _, rfl, rfl⟩, rfl, ⟨_, _, rfl, rfl, rfl⟩⟩
theorem ty138 : TI.ok Tryd.prog 138 ⟨.other, 1, 8, false, [.nilFunc]⟩ := ⟨by show (_ : Option TypeDesc).isSome = true; rw [Tryd.underlying138]; rfl, ⟨_, rfl, rfl, rfl, _, rfl, rfl⟩, rfl, ⟨_, _, rfl, rfl, rfl⟩⟩
theorem ty139 : TI.ok Tryd.prog 139 ⟨.other, 1, 8, false, [.pointer none]⟩ := ⟨by show (_ : Option TypeDesc).isSome = true; rw [Tryd.underlying139]; rfl, ⟨_, rfl, rfl, rfl, _, rfl, rfl⟩, rfl, ⟨_, _, rfl, rfl, rfl⟩⟩
theorem ty140 : TI.ok Tryd.prog 140 ⟨.struct [(0, 1), (1, 1)], 2, 32, true, [.pointer none, .slice none 0 0]⟩ := ⟨⟨_, Tryd.underlying140, rfl, fun i o s h => match i, h with
      | 0, h => by cases h; exact ⟨_, _, rfl, rfl, rfl, rfl, by decide⟩
      | 1, h => by cases h; exact ⟨_, _, rfl, rfl, rfl, rfl, by decide⟩
      | n + 2, h => by simp at h⟩, ⟨_, rfl, rfl, rfl, _, rfl, rfl⟩, rfl, ⟨_, _, rfl, rfl, rfl⟩⟩
theorem ty141 : TI.ok Tryd.prog 141 ⟨.struct [(0, 1), (1, 1)], 2, 32, true, [.pointer none, .slice none 0 0]⟩ := ⟨⟨_, Tryd.underlying141, rfl, fun i o s h => match i, h with
      | 0, h => by cases h; exact ⟨_, _, rfl, rfl, rfl, rfl, by decide⟩
      | 1, h => by cases h; exact ⟨_, _, rfl, rfl, rfl, rfl, by decide⟩
      | n + 2, h => by simp at h⟩, ⟨_, rfl, rfl, rfl, _, rfl, rfl⟩, rfl, ⟨_, _, rfl, rfl, rfl⟩⟩
theorem ty142 : TI.ok Tryd.prog 142 ⟨.other, 1, 8, false, [.nilFunc]⟩ := ⟨by show (_ : Option TypeDesc).isSome = true; rw [Tryd.underlying142]; rfl, ⟨_, rfl, rfl, rfl, _, rfl, rfl⟩, rfl, ⟨_, _, rfl, rfl, rfl⟩⟩
theorem ty143 : TI.ok Tryd.prog 143 ⟨.other, 1, 8, false, [.nilFunc]⟩ := ⟨by show (_ : Option TypeDesc).isSome = true; rw [Tryd.underlying143]; rfl, ⟨_, rfl, rfl, rfl, _, rfl, rfl⟩, rfl, ⟨_, _, rfl, rfl, rfl⟩⟩
theorem ty144 : TI.ok Tryd.prog 144 ⟨.other, 1, 8, false, [.nilFunc]⟩ := ⟨by show (_ : Option TypeDesc).isSome = true; rw [Tryd.underlying144]; rfl, ⟨_, rfl, rfl, rfl, _, rfl, rfl⟩, rfl, ⟨_, _, rfl, rfl, rfl⟩⟩
theorem ty145 : TI.ok Tryd.prog 145 ⟨.other, 1, 8, false, [.nilFunc]⟩ := ⟨by show (_ : Option TypeDesc).isSome = true; rw [Tryd.underlying145]; rfl, ⟨_, rfl, rfl, rfl, _, rfl, rfl⟩, rfl, ⟨_, _, rfl, rfl, rfl⟩⟩
theorem ty146 : TI.ok Tryd.prog 146 ⟨.other, 1, 8, false, [.nilFunc]⟩ := ⟨by show (_ : Option TypeDesc).isSome = true; rw [Tryd.underlying146]; rfl, ⟨_, rfl, rfl, rfl, _, rfl, rfl⟩, rfl, ⟨_, _, rfl, rfl, rfl⟩⟩
theorem ty147 : TI.ok Tryd.prog 147 ⟨.other, 1, 8, false, [.nilFunc]⟩ := ⟨by show (_ : Option TypeDesc).isSome = true; rw [Tryd.underlying147]; rfl, ⟨_, rfl, rfl, rfl, _, rfl, rfl⟩, rfl, ⟨_, _, rfl, rfl, rfl⟩⟩
theorem ty148 : TI.ok Tryd.prog 148 ⟨.other, 1, 8, false, [.nilFunc]⟩ := ⟨by show (_ : Option TypeDesc).isSome = true; rw [Tryd.underlying148]; rfl, ⟨_, rfl, rfl, rfl, _, rfl, rfl⟩, rfl, ⟨_, _, rfl, rfl, rfl⟩⟩
theorem ty149 : TI.ok Tryd.prog 149 ⟨.other, 1, 8, false, [.nilFunc]⟩ := ⟨by show (_ : Option TypeDesc).isSome = true; rw [Tryd.underlying149]; rfl, ⟨_, rfl, rfl, rfl, _, rfl, rfl⟩, rfl, ⟨_, _, rfl, rfl, rfl⟩⟩
theorem ty153 : TI.ok Tryd.prog 153 ⟨.other, 1, 8, false, [.nilFunc]⟩ := ⟨by show (_ : Option TypeDesc).isSome = true; rw [Tryd.underlying153]; rfl, ⟨_, rfl, rfl, rfl, _, rfl, rfl⟩, rfl, ⟨_, _, rfl, rfl, rfl⟩⟩
theorem ty154 : TI.ok Tryd.prog 154 ⟨.other, 1, 8, false, [.nilFunc]⟩ := ⟨by show (_ : Option TypeDesc).isSome = true; rw [Tryd.underlying154]; rfl, ⟨_, rfl, rfl, rfl, _, rfl, rfl⟩, rfl, ⟨_, _, rfl, rfl, rfl⟩⟩
theorem ty155 : TI.ok Tryd.prog 155 ⟨.other, 1, 8, false, [.pointer none]⟩ := ⟨by show (_ : Option TypeDesc).isSome = true; rw [Tryd.underlying155]; rfl, ⟨_, rfl, rfl, rfl, _, rfl, rfl⟩, rfl, ⟨_, _, rfl, rfl, rfl⟩⟩
theorem ty156 : TI.ok Tryd.prog 156 ⟨.int .u64, 1, 8, false, [.int .u64 0]⟩ := ⟨Tryd.underlying156, ⟨_, rfl, rfl, rfl, _, rfl, rfl⟩, rfl, ⟨_, _, rfl, rfl, rfl⟩⟩
theorem ty157 : TI.ok Tryd.prog 157 ⟨.int .u64, 1, 8, false, [.int .u64 0]⟩ := ⟨Tryd.underlying157, ⟨_, rfl, rfl, rfl, _, rfl, rfl⟩, rfl, ⟨_, _, rfl, rfl, rfl⟩⟩
theorem ty159 : TI.ok Tryd.prog 159 ⟨.other, 1, 8, false, [.nilFunc]⟩ := ⟨by show (_ : Option TypeDesc).isSome = true; rw [Tryd.underlying159]; rfl, ⟨_, rfl, rfl, rfl, _, rfl, rfl⟩, rfl, ⟨_, _, rfl, rfl, rfl⟩⟩
theorem ty160 : TI.ok Tryd.prog 160 ⟨.struct [(0, 1), (1, 1), (2, 1)], 3, 48, true, [.string ⟨#[]⟩, .string ⟨#[]⟩, .nilIface]⟩ := ⟨⟨_, Tryd.underlying160, rfl, fun i o s h => match i, h with
      | 0, h => by cases h; exact ⟨_, _, rfl, rfl, rfl, rfl, by decide⟩
      | 1, h => by cases h; exact ⟨_, _, rfl, rfl, rfl, rfl, by decide⟩
      | 2, h => by cases h; exact ⟨_, _, rfl, rfl, rfl, rfl, by decide⟩
      | n + 3, h => by simp at h⟩, ⟨_, rfl, rfl, rfl, _, rfl, rfl⟩, rfl, ⟨_, _, rfl, rfl, rfl⟩⟩
theorem ty161 : TI.ok Tryd.prog 161 ⟨.struct [(0, 1), (1, 1), (2, 1)], 3, 48, true, [.string ⟨#[]⟩, .string ⟨#[]⟩, .nilIface]⟩ := ⟨⟨_, Tryd.underlying161, rfl, fun i o s h => match i, h with
      | 0, h => by cases h; exact ⟨_, _, rfl, rfl, rfl, rfl, by decide⟩
      | 1, h => by cases h; exact ⟨_, _, rfl, rfl, rfl, rfl, by decide⟩
      | 2, h => by cases h; exact ⟨_, _, rfl, rfl, rfl, rfl, by decide⟩
      | n + 3, h => by simp at h⟩, ⟨_, rfl, rfl, rfl, _, rfl, rfl⟩, rfl, ⟨_, _, rfl, rfl, rfl⟩⟩
theorem ty162 : TI.ok Tryd.prog 162 ⟨.other, 1, 8, false, [.nilFunc]⟩ := ⟨by show (_ : Option TypeDesc).isSome = true; rw [Tryd.underlying162]; rfl, ⟨_, rfl, rfl, rfl, _, rfl, rfl⟩, rfl, ⟨_, _, rfl, rfl, rfl⟩⟩
theorem ty163 : TI.ok Tryd.prog 163 ⟨.other, 1, 8, false, [.nilFunc]⟩ := ⟨by show (_ : Option TypeDesc).isSome = true; rw [Tryd.underlying163]; rfl, ⟨_, rfl, rfl, rfl, _, rfl, rfl⟩, rfl, ⟨_, _, rfl, rfl, rfl⟩⟩
theorem ty164 : TI.ok Tryd.prog 164 ⟨.other, 1, 8, false, [.pointer none]⟩ := ⟨by show (_ : Option TypeDesc).isSome = true; rw [Tryd.underlying164]; rfl, ⟨_, rfl, rfl, rfl, _, rfl, rfl⟩, rfl, ⟨_, _, rfl, rfl, rfl⟩⟩
theorem ty165 : TI.ok Tryd.prog 165 ⟨.other, 1, 8, false, [.nilFunc]⟩ := ⟨by show (_ : Option TypeDesc).isSome = true; rw [Tryd.underlying165]; rfl, ⟨_, rfl, rfl, rfl, _, rfl, rfl⟩, rfl, ⟨_, _, rfl, rfl, rfl⟩⟩
theorem ty166 : TI.ok Tryd.prog 166 ⟨.other, 1, 8, false, [.nilFunc]⟩ := ⟨by show (_ : Option TypeDesc).isSome = true; rw [Tryd.underlying166]; rfl, ⟨_, rfl, rfl, rfl, _, rfl, rfl⟩, rfl, ⟨_, _, rfl, rfl, rfl⟩⟩
theorem ty167 : TI.ok Tryd.prog 167 ⟨.other, 1, 8, false, [.nilFunc]⟩ := ⟨by show (_ : Option TypeDesc).isSome = true; rw [Tryd.underlying167]; rfl, ⟨_, rfl, rfl, rfl, _, rfl, rfl⟩, rfl, ⟨_, _, rfl, rfl, rfl⟩⟩
theorem ty168 : TI.ok Tryd.prog 168 ⟨.int .u32, 1, 4, false, [.int .u32 0]⟩ := ⟨Tryd.underlying168, ⟨_, rfl, rfl, rfl, _, rfl, rfl⟩, rfl, ⟨_, _, rfl, rfl, rfl⟩⟩
theorem ty170 : TI.ok Tryd.prog 170 ⟨.other, 1, 8, false, [.nilFunc]⟩ := ⟨by show (_ : Option TypeDesc).isSome = true; rw [Tryd.underlying170]; rfl, ⟨_, rfl, rfl, rfl, _, rfl, rfl⟩, rfl, ⟨_, _, rfl, rfl, rfl⟩⟩
theorem ty171 : TI.ok Tryd.prog 171 ⟨.other, 1, 8, false, [.pointer none]⟩ := ⟨by show (_ : Option TypeDesc).isSome = true; rw [Tryd.underlying171]; rfl, ⟨_, rfl, rfl, rfl, _, rfl, rfl⟩, rfl, ⟨_, _, rfl, rfl, rfl⟩⟩
theorem ty172 : TI.ok Tryd.prog 172 ⟨.struct [(0, 1)], 1, 16, true, [.string ⟨#[]⟩]⟩ := ⟨⟨_, Tryd.underlying172, rfl, fun i o s h => match i, h with
      | 0, h => by cases h; exact ⟨_, _, rfl, rfl, rfl, rfl, by decide⟩
      | n + 1, h => by simp at h⟩, ⟨_, rfl, rfl, rfl, _, rfl, rfl⟩, rfl, ⟨_, _, rfl, rfl, rfl⟩⟩
theorem ty173 : TI.ok Tryd.prog 173 ⟨.struct [(0, 1)], 1, 16, true, [.string ⟨#[]⟩]⟩ := ⟨⟨_, Tryd.underlying173, rfl, fun i o s h => match i, h with
      | 0, h => by cases h; exact ⟨_, _, rfl, rfl, rfl, rfl, by decide⟩
      | n + 1, h => by simp at h⟩, ⟨_, rfl, rfl, rfl, _, rfl, rfl⟩, rfl, ⟨_, _, rfl, rfl, rfl⟩⟩
theorem ty175 : TI.ok Tryd.prog 175 ⟨.struct [(0, 1), (1, 1)], 2, 2, true, [.int .u8 0, .int .u8 0]⟩ := ⟨⟨_, Tryd.underlying175, rfl, fun i o s h => match i, h with
      | 0, h => by cases h; exact ⟨_, _, rfl, rfl, rfl, rfl, by decide⟩
      | 1, h => by cases h; exact ⟨_, _, rfl, rfl, rfl, rfl, by decide⟩
      | n + 2, h => by simp at h⟩, ⟨_, rfl, rfl, rfl, _, rfl, rfl⟩, rfl, ⟨_, _, rfl, rfl, rfl⟩⟩
theorem ty176 : TI.ok Tryd.prog 176 ⟨.struct [(0, 1), (1, 1)], 2, 2, true, [.int .u8 0, .int .u8 0]⟩ := ⟨⟨_, Tryd.underlying176, rfl, fun i o s h => match i, h with
      | 0, h => by cases h; exact ⟨_, _, rfl, rfl, rfl, rfl, by decide⟩
      | 1, h => by cases h; exact ⟨_, _, rfl, rfl, rfl, rfl, by decide⟩
      | n + 2, h => by simp at h⟩, ⟨_, rfl, rfl, rfl, _, rfl, rfl⟩, rfl, ⟨_, _, rfl, rfl, rfl⟩⟩
theorem ty179 : TI.ok Tryd.prog 179 ⟨.other, 1, 8, false, [.nilFunc]⟩ := ⟨by show (_ : Option TypeDesc).isSome = true; rw [Tryd.underlying179]; rfl, ⟨_, rfl, rfl, rfl, _, rfl, rfl⟩, rfl, ⟨_, _, rfl, rfl, rfl⟩⟩
theorem ty180 : TI.ok Tryd.prog 180 ⟨.other, 1, 8, false, [.nilFunc]⟩ := ⟨by show (_ : Option TypeDesc).isSome = true; rw [Tryd.underlying180]; rfl, ⟨_, rfl, rfl, rfl, _, rfl, rfl⟩, rfl, ⟨_, _, rfl, rfl, rfl⟩⟩
theorem ty182 : TI.ok Tryd.prog 182 ⟨.other, 1, 8, false, [.nilFunc]⟩ := ⟨by show (_ : Option TypeDesc).isSome = true; rw [Tryd.underlying182]; rfl, ⟨_, rfl, rfl, rfl, _, rfl, rfl⟩, rfl, ⟨_, _, rfl, rfl, rfl⟩⟩
theorem ty184 : TI.ok Tryd.prog 184 ⟨.other, 1, 8, false, [.nilFunc]⟩ := ⟨by show (_ : Option TypeDesc).isSome = true; rw [Tryd.underlying184]; rfl, ⟨_, rfl, rfl, rfl, _, rfl, rfl⟩, rfl, ⟨_, _, rfl, rfl, rfl⟩⟩
theorem ty185 : TI.ok Tryd.prog 185 ⟨.other, 1, 8, false, [.nilFunc]⟩ := ⟨by show (_ : Option TypeDesc).isSome = true; rw [Tryd.underlying185]; rfl, ⟨_, rfl, rfl, rfl, _, rfl, rfl⟩, rfl, ⟨_, _, rfl, rfl, rfl⟩⟩
theorem ty186 : TI.ok Tryd.prog 186 ⟨.other, 1, 8, false, [.nilFunc]⟩ := ⟨by show (_ : Option TypeDesc).isSome = true; rw [Tryd.underlying186]; rfl, ⟨_, rfl, rfl, rfl, _, rfl, rfl⟩, rfl, ⟨_, _, rfl, rfl, rfl⟩⟩
theorem ty187 : TI.ok Tryd.prog 187 ⟨.other, 1, 8, false, [.nilFunc]⟩ := ⟨by show (_ : Option TypeDesc).isSome = true; rw [Tryd.underlying187]; rfl, ⟨_, rfl, rfl, rfl, _, rfl, rfl⟩, rfl, ⟨_, _, rfl, rfl, rfl⟩⟩
theorem ty190 : TI.ok Tryd.prog 190 ⟨.other, 1, 8, false, [.nilFunc]⟩ := ⟨by show (_ : Option TypeDesc).isSome = true; rw [Tryd.underlying190]; rfl, ⟨_, rfl, rfl, rfl, _, rfl, rfl⟩, rfl, ⟨_, _, rfl, rfl, rfl⟩⟩
theorem ty191 : TI.ok Tryd.prog 191 ⟨.other, 1, 8, false, [.nilFunc]⟩ := ⟨by show (_ : Option TypeDesc).isSome = true; rw [Tryd.underlying191]; rfl, ⟨_, rfl, rfl, rfl, _, rfl, rfl⟩, rfl, ⟨_, _, rfl, rfl, rfl⟩⟩
theorem ty192 : TI.ok Tryd.prog 192 ⟨.other, 1, 8, false, [.nilFunc]⟩ := ⟨by show (_ : Option TypeDesc).isSome = true; rw [Tryd.underlying192]; rfl, ⟨_, rfl, rfl, rfl, _, rfl, rfl⟩, rfl, ⟨_, _, rfl, rfl, rfl⟩⟩
theorem ty195 : TI.ok Tryd.prog 195 ⟨.struct [(0, 1), (1, 1), (2, 1), (3, 1)], 4, 40, true, [.pointer none, .pointer none, .pointer none, .string ⟨#[]⟩]⟩ := ⟨⟨_, Tryd.underlying195, rfl, fun i o s h => match i, h with
      | 0, h => by cases h; exact ⟨_, _, rfl, rfl, rfl, rfl, by decide⟩
      | 1, h => by cases h; exact ⟨_, _, rfl, rfl, rfl, rfl, by decide⟩
      | 2, h => by cases h; exact ⟨_, _, rfl, rfl, rfl, rfl, by decide⟩
      | 3, h => by cases h; exact ⟨_, _, rfl, rfl, rfl, rfl, by decide⟩
      | n + 4, h => by simp at h⟩, ⟨_, rfl, rfl, rfl, _, rfl, rfl⟩, rfl, ⟨_, _, rfl, rfl, rfl⟩⟩
theorem ty196 : TI.ok Tryd.prog 196 ⟨.struct [(0, 1), (1, 1), (2, 1), (3, 1)], 4, 40, true, [.pointer none, .pointer none, .pointer none, .string ⟨#[]⟩]⟩ := ⟨⟨_, Tryd.underlying196, rfl, fun i o s h => match i, h with
      | 0, h => by cases h; exact ⟨_, _, rfl, rfl, rfl, rfl, by decide⟩
      | 1, h => by cases h; exact ⟨_, _, rfl, rfl, rfl, rfl, by decide⟩
      | 2, h => by cases h; exact ⟨_, _, rfl, rfl, rfl, rfl, by decide⟩
      | 3, h => by cases h; exact ⟨_, _, rfl, rfl, rfl, rfl, by decide⟩
      | n + 4, h => by simp at h⟩, ⟨_, rfl, rfl, rfl, _, rfl, rfl⟩, rfl, ⟨_, _, rfl, rfl, rfl⟩⟩
theorem ty200 : TI.ok Tryd.prog 200 ⟨.int .u8, 1, 1, false, [.int .u8 0]⟩ := ⟨Tryd.underlying200, ⟨_, rfl, rfl, rfl, _, rfl, rfl⟩, rfl, ⟨_, _, rfl, rfl, rfl⟩⟩
theorem ty201 : TI.ok Tryd.prog 201 ⟨.int .u8, 1, 1, false, [.int .u8 0]⟩ := ⟨Tryd.underlying201, ⟨_, rfl, rfl, rfl, _, rfl, rfl⟩, rfl, ⟨_, _, rfl, rfl, rfl⟩⟩
theorem ty202 : TI.ok Tryd.prog 202 ⟨.other, 1, 8, false, [.nilFunc]⟩ := ⟨by show (_ : Option TypeDesc).isSome = true; rw [Tryd.underlying202]; rfl, ⟨_, rfl, rfl, rfl, _, rfl, rfl⟩, rfl, ⟨_, _, rfl, rfl, rfl⟩⟩
theorem ty203 : TI.ok Tryd.prog 203 ⟨.int .i32, 1, 4, false, [.int .i32 0]⟩ := ⟨Tryd.underlying203, ⟨_, rfl, rfl, rfl, _, rfl, rfl⟩, rfl, ⟨_, _, rfl, rfl, rfl⟩⟩
theorem ty204 : TI.ok Tryd.prog 204 ⟨.int .i32, 1, 4, false, [.int .i32 0]⟩ := ⟨Tryd.underlying204, ⟨_, rfl, rfl, rfl, _, rfl, rfl⟩, rfl, ⟨_, _, rfl, rfl, rfl⟩⟩
def tt : Ty := [
  (2, ⟨.int .i64, 1, 8, false, [.int .i64 0]⟩),
  (3, ⟨.int .i64, 1, 8, false, [.int .i64 0]⟩),
  (4, ⟨.bool, 1, 1, false, [.bool false]⟩),
  (5, ⟨.int .u8, 1, 1, false, [.int .u8 0]⟩),
  (6, ⟨.int .u8, 1, 1, false, [.int .u8 0]⟩),
  (9, ⟨.str, 1, 16, false, [.string ⟨#[]⟩]⟩),
  (10, ⟨.str, 1, 16, false, [.string ⟨#[]⟩]⟩),
  (11, ⟨.str, 1, 16, false, [.string ⟨#[]⟩]⟩),
  (12, ⟨.int .u64, 1, 8, false, [.int .u64 0]⟩),
  (21, ⟨.int .i32, 1, 4, false, [.int .i32 0]⟩),
  (130, ⟨.int .i64, 1, 8, false, [.int .i64 0]⟩),
  (156, ⟨.int .u64, 1, 8, false, [.int .u64 0]⟩),
  (157, ⟨.int .u64, 1, 8, false, [.int .u64 0]⟩),
  (168, ⟨.int .u32, 1, 4, false, [.int .u32 0]⟩),
  (200, ⟨.int .u8, 1, 1, false, [.int .u8 0]⟩),
  (201, ⟨.int .u8, 1, 1, false, [.int .u8 0]⟩),
  (203, ⟨.int .i32, 1, 4, false, [.int .i32 0]⟩),
  (204, ⟨.int .i32, 1, 4, false, [.int .i32 0]⟩),
  (7, ⟨.struct [(0, 1), (1, 1), (2, 1), (3, 1)], 4, 24, true, [.int .i64 0, .int .i64 0, .bool false, .int .u8 0]⟩),
  (8, ⟨.struct [(0, 1), (1, 1), (2, 1), (3, 1)], 4, 24, true, [.int .i64 0, .int .i64 0, .bool false, .int .u8 0]⟩),
  (13, ⟨.struct [(0, 1), (1, 1)], 2, 24, true, [.string ⟨#[]⟩, .int .u64 0]⟩),
  (14, ⟨.struct [(0, 1), (1, 1)], 2, 24, true, [.string ⟨#[]⟩, .int .u64 0]⟩),
  (18, ⟨.struct [(0, 1)], 1, 8, true, [.pointer none]⟩),
  (19, ⟨.struct [(0, 1)], 1, 8, true, [.pointer none]⟩),
  (22, ⟨.slice 70, 1, 24, false, [.slice none 0 0]⟩),
  (23, ⟨.struct [(0, 1), (1, 1)], 2, 32, true, [.int .i64 0, .slice none 0 0]⟩),
  (24, ⟨.struct [(0, 1), (1, 1)], 2, 32, true, [.int .i64 0, .slice none 0 0]⟩),
  (30, ⟨.struct [(0, 1), (1, 1), (2, 1)], 3, 3, true, [.bool false, .bool false, .bool false]⟩),
  (31, ⟨.struct [(0, 1), (1, 1), (2, 1)], 3, 3, true, [.bool false, .bool false, .bool false]⟩),
  (32, ⟨.struct [(0, 1), (1, 1)], 2, 16, true, [.int .i64 0, .int .i64 0]⟩),
  (33, ⟨.struct [(0, 1), (1, 1)], 2, 16, true, [.int .i64 0, .int .i64 0]⟩),
  (34, ⟨.slice 33, 1, 24, false, [.slice none 0 0]⟩),
  (68, ⟨.slice 3, 1, 24, false, [.slice none 0 0]⟩),
  (69, ⟨.struct [(0, 1), (1, 1), (2, 1)], 3, 24, true, [.int .i64 0, .int .i64 0, .int .i64 0]⟩),
  (70, ⟨.struct [(0, 1), (1, 1), (2, 1)], 3, 24, true, [.int .i64 0, .int .i64 0, .int .i64 0]⟩),
  (83, ⟨.slice 9, 1, 24, false, [.slice none 0 0]⟩),
  (88, ⟨.struct [(0, 1), (1, 1)], 2, 24, true, [.string ⟨#[]⟩, .int .i64 0]⟩),
  (89, ⟨.struct [(0, 1), (1, 1)], 2, 24, true, [.string ⟨#[]⟩, .int .i64 0]⟩),
  (112, ⟨.slice 5, 1, 24, false, [.slice none 0 0]⟩),
  (114, ⟨.slice 4, 1, 24, false, [.slice none 0 0]⟩),
  (140, ⟨.struct [(0, 1), (1, 1)], 2, 32, true, [.pointer none, .slice none 0 0]⟩),
  (141, ⟨.struct [(0, 1), (1, 1)], 2, 32, true, [.pointer none, .slice none 0 0]⟩),
  (160, ⟨.struct [(0, 1), (1, 1), (2, 1)], 3, 48, true, [.string ⟨#[]⟩, .string ⟨#[]⟩, .nilIface]⟩),
  (161, ⟨.struct [(0, 1), (1, 1), (2, 1)], 3, 48, true, [.string ⟨#[]⟩, .string ⟨#[]⟩, .nilIface]⟩),
  (172, ⟨.struct [(0, 1)], 1, 16, true, [.string ⟨#[]⟩]⟩),
  (173, ⟨.struct [(0, 1)], 1, 16, true, [.string ⟨#[]⟩]⟩),
  (175, ⟨.struct [(0, 1), (1, 1)], 2, 2, true, [.int .u8 0, .int .u8 0]⟩),
  (176, ⟨.struct [(0, 1), (1, 1)], 2, 2, true, [.int .u8 0, .int .u8 0]⟩),
  (195, ⟨.struct [(0, 1), (1, 1), (2, 1), (3, 1)], 4, 40, true, [.pointer none, .pointer none, .pointer none, .string ⟨#[]⟩]⟩),
  (196, ⟨.struct [(0, 1), (1, 1), (2, 1), (3, 1)], 4, 40, true, [.pointer none, .pointer none, .pointer none, .string ⟨#[]⟩]⟩),
  (1, ⟨.other, 1, 8, false, [.nilFunc]⟩),
  (15, ⟨.other, 1, 8, false, [.pointer none]⟩),
  (16, ⟨.other, 1, 8, false, [.pointer none]⟩),
  (17, ⟨.other, 1, 8, false, [.pointer none]⟩),
  (26, ⟨.other, 1, 8, false, [.nilFunc]⟩),
  (27, ⟨.other, 1, 8, false, [.nilFunc]⟩),
  (28, ⟨.other, 1, 8, false, [.nilFunc]⟩),
  (29, ⟨.other, 1, 8, false, [.nilFunc]⟩),
  (36, ⟨.other, 1, 8, false, [.nilFunc]⟩),
  (37, ⟨.other, 1, 8, false, [.nilFunc]⟩),
  (38, ⟨.other, 1, 8, false, [.nilFunc]⟩),
  (39, ⟨.other, 1, 8, false, [.nilFunc]⟩),
  (40, ⟨.other, 1, 8, false, [.nilFunc]⟩),
  (42, ⟨.other, 1, 8, false, [.nilFunc]⟩),
  (44, ⟨.other, 1, 8, false, [.nilFunc]⟩),
  (45, ⟨.other, 1, 8, false, [.nilFunc]⟩),
  (46, ⟨.other, 1, 8, false, [.nilFunc]⟩),
  (48, ⟨.other, 1, 8, false, [.nilFunc]⟩),
  (49, ⟨.other, 1, 8, false, [.nilFunc]⟩),
  (50, ⟨.other, 1, 8, false, [.nilFunc]⟩),
  (51, ⟨.other, 1, 8, false, [.nilFunc]⟩),
  (52, ⟨.other, 1, 8, false, [.nilFunc]⟩),
  (54, ⟨.other, 1, 8, false, [.nilFunc]⟩),
  (55, ⟨.other, 1, 8, false, [.nilFunc]⟩),
  (56, ⟨.other, 1, 8, false, [.nilFunc]⟩),
  (57, ⟨.other, 1, 8, false, [.nilFunc]⟩),
  (58, ⟨.other, 1, 8, false, [.nilFunc]⟩),
  (60, ⟨.other, 1, 8, false, [.nilFunc]⟩),
  (64, ⟨.other, 1, 8, false, [.nilFunc]⟩),
  (65, ⟨.other, 1, 8, false, [.nilFunc]⟩),
  (66, ⟨.other, 1, 8, false, [.nilFunc]⟩),
  (67, ⟨.other, 1, 8, false, [.nilFunc]⟩),
  (71, ⟨.other, 1, 8, false, [.nilFunc]⟩),
  (72, ⟨.other, 1, 8, false, [.nilFunc]⟩),
  (73, ⟨.other, 1, 8, false, [.nilFunc]⟩),
  (74, ⟨.other, 1, 8, false, [.nilFunc]⟩),
  (75, ⟨.other, 1, 8, false, [.nilFunc]⟩),
  (76, ⟨.other, 1, 8, false, [.nilFunc]⟩),
  (77, ⟨.other, 1, 8, false, [.nilFunc]⟩),
  (78, ⟨.other, 1, 8, false, [.nilFunc]⟩),
  (80, ⟨.other, 1, 8, false, [.nilFunc]⟩),
  (81, ⟨.other, 1, 8, false, [.nilFunc]⟩),
  (82, ⟨.other, 1, 8, false, [.nilFunc]⟩),
  (85, ⟨.other, 1, 8, false, [.nilFunc]⟩),
  (86, ⟨.other, 1, 8, false, [.nilFunc]⟩),
  (87, ⟨.other, 1, 8, false, [.nilFunc]⟩),
  (90, ⟨.other, 1, 8, false, [.nilFunc]⟩),
  (91, ⟨.other, 1, 8, false, [.nilFunc]⟩),
  (92, ⟨.other, 1, 8, false, [.nilFunc]⟩),
  (93, ⟨.other, 1, 8, false, [.nilFunc]⟩),
  (94, ⟨.other, 1, 8, false, [.nilFunc]⟩),
  (95, ⟨.other, 1, 8, false, [.nilFunc]⟩),
  (96, ⟨.other, 1, 8, false, [.nilFunc]⟩),
  (97, ⟨.other, 1, 8, false, [.nilFunc]⟩),
  (98, ⟨.other, 1, 8, false, [.nilFunc]⟩),
  (99, ⟨.other, 1, 8, false, [.nilFunc]⟩),
  (100, ⟨.other, 1, 8, false, [.nilFunc]⟩),
  (101, ⟨.other, 1, 8, false, [.nilFunc]⟩),
  (102, ⟨.other, 1, 8, false, [.nilFunc]⟩),
  (103, ⟨.other, 1, 8, false, [.nilFunc]⟩),
  (104, ⟨.other, 1, 8, false, [.nilFunc]⟩),
  (105, ⟨.other, 1, 8, false, [.nilFunc]⟩),
  (106, ⟨.other, 1, 8, false, [.nilFunc]⟩),
  (107, ⟨.other, 1, 8, false, [.nilFunc]⟩),
  (108, ⟨.other, 1, 8, false, [.nilFunc]⟩),
  (109, ⟨.other, 1, 8, false, [.nilFunc]⟩),
  (110, ⟨.other, 1, 8, false, [.nilFunc]⟩),
  (111, ⟨.other, 1, 8, false, [.nilFunc]⟩),
  (113, ⟨.other, 1, 8, false, [.nilFunc]⟩),
  (115, ⟨.other, 1, 8, false, [.nilFunc]⟩),
  (116, ⟨.other, 1, 8, false, [.nilFunc]⟩),
  (117, ⟨.other, 1, 8, false, [.nilFunc]⟩),
  (118, ⟨.other, 1, 8, false, [.nilFunc]⟩),
  (119, ⟨.other, 1, 8, false, [.nilFunc]⟩),
  (120, ⟨.other, 1, 8, false, [.nilFunc]⟩),
  (122, ⟨.other, 1, 8, false, [.nilFunc]⟩),
  (123, ⟨.other, 1, 8, false, [.nilFunc]⟩),
  (124, ⟨.other, 1, 8, false, [.nilFunc]⟩),
  (125, ⟨.other, 1, 8, false, [.nilFunc]⟩),
  (126, ⟨.other, 1, 8, false, [.nilFunc]⟩),
  (127, ⟨.other, 1, 8, false, [.nilFunc]⟩),
  (128, ⟨.other, 1, 8, false, [.nilFunc]⟩),
  (129, ⟨.other, 1, 8, false, [.nilFunc]⟩),
  (132, ⟨.other, 1, 8, false, [.nilFunc]⟩),
  (133, ⟨.other, 1, 8, false, [.pointer none]⟩),
  (134, ⟨.other, 1, 8, false, [.nilFunc]⟩),
  (135, ⟨.other, 1, 8, false, [.nilFunc]⟩),
  (137, ⟨.other, 1, 8, false, [.nilFunc]⟩),
  (138, ⟨.other, 1, 8, false, [.nilFunc]⟩),
  (139, ⟨.other, 1, 8, false, [.pointer none]⟩),
  (142, ⟨.other, 1, 8, false, [.nilFunc]⟩),
  (143, ⟨.other, 1, 8, false, [.nilFunc]⟩),
  (144, ⟨.other, 1, 8, false, [.nilFunc]⟩),
  (145, ⟨.other, 1, 8, false, [.nilFunc]⟩),
  (146, ⟨.other, 1, 8, false, [.nilFunc]⟩),
  (147, ⟨.other, 1, 8, false, [.nilFunc]⟩),
  (148, ⟨.other, 1, 8, false, [.nilFunc]⟩),
  (149, ⟨.other, 1, 8, false, [.nilFunc]⟩),
  (153, ⟨.other, 1, 8, false, [.nilFunc]⟩),
  (154, ⟨.other, 1, 8, false, [.nilFunc]⟩),
  (155, ⟨.other, 1, 8, false, [.pointer none]⟩),
  (159, ⟨.other, 1, 8, false, [.nilFunc]⟩),
  (162, ⟨.other, 1, 8, false, [.nilFunc]⟩),
  (163, ⟨.other, 1, 8, false, [.nilFunc]⟩),
  (164, ⟨.other, 1, 8, false, [.pointer none]⟩),
  (165, ⟨.other, 1, 8, false, [.nilFunc]⟩),
  (166, ⟨.other, 1, 8, false, [.nilFunc]⟩),
  (167, ⟨.other, 1, 8, false, [.nilFunc]⟩),
  (170, ⟨.other, 1, 8, false, [.nilFunc]⟩),
  (171, ⟨.other, 1, 8, false, [.pointer none]⟩),
  (179, ⟨.other, 1, 8, false, [.nilFunc]⟩),
  (180, ⟨.other, 1, 8, false, [.nilFunc]⟩),
  (182, ⟨.other, 1, 8, false, [.nilFunc]⟩),
  (184, ⟨.other, 1, 8, false, [.nilFunc]⟩),
  (185, ⟨.other, 1, 8, false, [.nilFunc]⟩),
  (186, ⟨.other, 1, 8, false, [.nilFunc]⟩),
  (187, ⟨.other, 1, 8, false, [.nilFunc]⟩),
  (190, ⟨.other, 1, 8, false, [.nilFunc]⟩),
  (191, ⟨.other, 1, 8, false, [.nilFunc]⟩),
  (192, ⟨.other, 1, 8, false, [.nilFunc]⟩),
  (202, ⟨.other, 1, 8, false, [.nilFunc]⟩)]
theorem tt_ok : TyOk Tryd.prog tt := tyAll_ok
  ⟨ty2, ty3, ty4, ty5, ty6, ty9, ty10, ty11, ty12, ty21, ty130, ty156, ty157, ty168, ty200, ty201, ty203, ty204, ty7, ty8, ty13, ty14, ty18, ty19, ty22, ty23, ty24, ty30, ty31, ty32, ty33, ty34, ty68, ty69, ty70, ty83, ty88, ty89, ty112, ty114, ty140, ty141, ty160, ty161, ty172, ty173, ty175, ty176, ty195, ty196, ty1, ty15, ty16, ty17, ty26, ty27, ty28, ty29, ty36, ty37, ty38, ty39, ty40, ty42, ty44, ty45, ty46, ty48, ty49, ty50, ty51, ty52, ty54, ty55, ty56, ty57, ty58, ty60, ty64, ty65, ty66, ty67, ty71, ty72, ty73, ty74, ty75, ty76, ty77, ty78, ty80, ty81, ty82, ty85, ty86, ty87, ty90, ty91, ty92, ty93, ty94, ty95, ty96, ty97, ty98, ty99, ty100, ty101, ty102, ty103, ty104, ty105, ty106, ty107, ty108, ty109, ty110, ty111, ty113, ty115, ty116, ty117, ty118, ty119, ty120, ty122, ty123, ty124, ty125, ty126, ty127, ty128, ty129, ty132, ty133, ty134, ty135, ty137, ty138, ty139, ty142, ty143, ty144, ty145, ty146, ty147, ty148, ty149, ty153, ty154, ty155, ty159, ty162, ty163, ty164, ty165, ty166, ty167, ty170, ty171, ty179, ty180, ty182, ty184, ty185, ty186, ty187, ty190, ty191, ty192, ty202, trivial⟩
end Go.Proofs.YtaidpalamhmghaaDoor.X
