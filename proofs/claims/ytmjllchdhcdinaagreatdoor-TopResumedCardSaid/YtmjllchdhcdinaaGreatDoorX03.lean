/- Part of the proof: T L. -/
import Derived.Test.YtmjllchdhcdinaaGreatDoorX02
import Derived.Test.YtmjllchdhcdinaaGreatDoorProg
set_option linter.unusedVariables false
set_option linter.unusedSimpArgs false
set_option maxRecDepth 100000
set_option maxHeartbeats 8000000
namespace Go.Proofs.YtmjllchdhcdinaaGreatDoor
section
open Go Fm
theorem U22 : Tryz.prog.underlying 22 = some (.slice 3) := by kernel_rfl
theorem U23 : Tryz.prog.underlying 23 = some (.slice 71) := by kernel_rfl
theorem U26 : Tryz.prog.underlying 26 = some (.slice 5) := by kernel_rfl
theorem U27 : Tryz.prog.underlying 27 = some (.slice 22) := by kernel_rfl
theorem U33 : Tryz.prog.underlying 33 = some (.slice 4) := by kernel_rfl
theorem U58 : Tryz.prog.underlying 58 = some (.slice 68) := by kernel_rfl
theorem U81 : Tryz.prog.underlying 81 = some (.slice 49) := by kernel_rfl
theorem U82 : Tryz.prog.underlying 82 = some (.slice 49) := by kernel_rfl
theorem U84 : Tryz.prog.underlying 84 = some (.slice 82) := by kernel_rfl
theorem Kj : Tryz.prog.underlying 106 = some (.slice 105) := by kernel_rfl
theorem Bn : Tryz.prog.underlying 133 = some (.slice 4) := by kernel_rfl
theorem LC : Tryz.prog.underlying 146 = some (.slice 144) := by kernel_rfl
theorem I0 : Tryz.prog.underlying 169 = some (.slice 9) := by kernel_rfl
theorem KV : Tryz.prog.underlying 170 = some (.slice 9) := by kernel_rfl
theorem mixed : F2 Tryz.prog := by unfold F2; kernel_rfl
theorem U66 : Tryz.prog.underlying 66 = some (.array 8 3) := by kernel_rfl
theorem D5 : Tryz.prog.underlying 134 = some (.array 2 133) := by kernel_rfl
theorem D2 : (Tryz.prog.info? 133).map (·.size) = some 1 := by kernel_rfl
theorem Ub : Tryz.prog.underlying 4 = some .bool := by kernel_rfl
theorem Z3 : (Tryz.prog.info? 3).map (·.size) = some 1 := by kernel_rfl
theorem Z4 : (Tryz.prog.info? 4).map (·.size) = some 1 := by kernel_rfl
theorem Z5 : (Tryz.prog.info? 5).map (·.size) = some 1 := by kernel_rfl
theorem Z9 : (Tryz.prog.info? 9).map (·.size) = some 1 := by kernel_rfl
theorem Z22 : (Tryz.prog.info? 22).map (·.size) = some 1 := by kernel_rfl
theorem Z49 : (Tryz.prog.info? 49).map (·.size) = some 1 := by kernel_rfl
theorem Z68 : (Tryz.prog.info? 68).map (·.size) = some 9 := by kernel_rfl
theorem Z71 : (Tryz.prog.info? 71).map (·.size) = some 4 := by kernel_rfl
theorem Z82 : (Tryz.prog.info? 82).map (·.size) = some 1 := by kernel_rfl
theorem LW : (Tryz.prog.info? 105).map (·.size) = some 2 := by kernel_rfl
theorem Z144 : (Tryz.prog.info? 144).map (·.size) = some 2 := by kernel_rfl
theorem I3 : (Tryz.prog.info? 3).map (fun i => (i.zero,i.size,i.bytes)) = some (some (.int .i64 0),1,8) := by kernel_rfl
theorem I4 : (Tryz.prog.info? 4).map (fun i => (i.zero,i.size,i.bytes)) = some (some (.bool false),1,1) := by kernel_rfl
theorem I5 : (Tryz.prog.info? 5).map (fun i => (i.zero,i.size,i.bytes)) = some (some (.int .u8 0),1,1) := by kernel_rfl
theorem I9 : (Tryz.prog.info? 9).map (fun i => (i.zero,i.size,i.bytes)) = some (some (.string ByteArray.empty),1,16) := by kernel_rfl
theorem I49 : (Tryz.prog.info? 49).map (fun i => (i.zero,i.size,i.bytes)) = some (some (.int .u64 0),1,8) := by kernel_rfl
theorem I82 : (Tryz.prog.info? 82).map (fun i => (i.zero,i.size,i.bytes)) = some (some (.slice none 0 0),1,24) := by kernel_rfl
theorem G3 : ∀ w,(isAgg 3).run Tryz.prog w = .ok false w := fun _ => by kernel_rfl
theorem S3 : ∀ w,(sizeOf 3).run Tryz.prog w = .ok 1 w := fun _ => by kernel_rfl
theorem G4 : ∀ w,(isAgg 4).run Tryz.prog w = .ok false w := fun _ => by kernel_rfl
theorem S4 : ∀ w,(sizeOf 4).run Tryz.prog w = .ok 1 w := fun _ => by kernel_rfl
theorem G5 : ∀ w,(isAgg 5).run Tryz.prog w = .ok false w := fun _ => by kernel_rfl
theorem S5 : ∀ w,(sizeOf 5).run Tryz.prog w = .ok 1 w := fun _ => by kernel_rfl
theorem G9 : ∀ w,(isAgg 9).run Tryz.prog w = .ok false w := fun _ => by kernel_rfl
theorem G22 : ∀ w,(isAgg 22).run Tryz.prog w = .ok false w := fun _ => by kernel_rfl
theorem S22 : ∀ w,(sizeOf 22).run Tryz.prog w = .ok 1 w := fun _ => by kernel_rfl
theorem G23 : ∀ w,(isAgg 23).run Tryz.prog w = .ok false w := fun _ => by kernel_rfl
theorem S23 : ∀ w,(sizeOf 23).run Tryz.prog w = .ok 1 w := fun _ => by kernel_rfl
theorem G26 : ∀ w,(isAgg 26).run Tryz.prog w = .ok false w := fun _ => by kernel_rfl
theorem S26 : ∀ w,(sizeOf 26).run Tryz.prog w = .ok 1 w := fun _ => by kernel_rfl
theorem G27 : ∀ w,(isAgg 27).run Tryz.prog w = .ok false w := fun _ => by kernel_rfl
theorem S27 : ∀ w,(sizeOf 27).run Tryz.prog w = .ok 1 w := fun _ => by kernel_rfl
theorem G30 : ∀ w,(isAgg 30).run Tryz.prog w = .ok false w := fun _ => by kernel_rfl
theorem G31 : ∀ w,(isAgg 31).run Tryz.prog w = .ok false w := fun _ => by kernel_rfl
theorem G33 : ∀ w,(isAgg 33).run Tryz.prog w = .ok false w := fun _ => by kernel_rfl
theorem S33 : ∀ w,(sizeOf 33).run Tryz.prog w = .ok 1 w := fun _ => by kernel_rfl
theorem G49 : ∀ w,(isAgg 49).run Tryz.prog w = .ok false w := fun _ => by kernel_rfl
theorem S49 : ∀ w,(sizeOf 49).run Tryz.prog w = .ok 1 w := fun _ => by kernel_rfl
theorem G58 : ∀ w,(isAgg 58).run Tryz.prog w = .ok false w := fun _ => by kernel_rfl
theorem S58 : ∀ w,(sizeOf 58).run Tryz.prog w = .ok 1 w := fun _ => by kernel_rfl
theorem G82 : ∀ w,(isAgg 82).run Tryz.prog w = .ok false w := fun _ => by kernel_rfl
theorem S82 : ∀ w,(sizeOf 82).run Tryz.prog w = .ok 1 w := fun _ => by kernel_rfl
theorem G84 : ∀ w,(isAgg 84).run Tryz.prog w = .ok false w := fun _ => by kernel_rfl
theorem S84 : ∀ w,(sizeOf 84).run Tryz.prog w = .ok 1 w := fun _ => by kernel_rfl
theorem G86 : ∀ w,(isAgg 86).run Tryz.prog w = .ok false w := fun _ => by kernel_rfl
theorem S86 : ∀ w,(sizeOf 86).run Tryz.prog w = .ok 1 w := fun _ => by kernel_rfl
theorem Ig : ∀ w,(isAgg 111).run Tryz.prog w = .ok false w := fun _ => by kernel_rfl
theorem G7 : ∀ w,(isAgg 118).run Tryz.prog w = .ok false w := fun _ => by kernel_rfl
theorem S118 : ∀ w,(sizeOf 118).run Tryz.prog w = .ok 1 w := fun _ => by kernel_rfl
theorem Ci : ∀ w,(isAgg 133).run Tryz.prog w = .ok false w := fun _ => by kernel_rfl
theorem K8 : ∀ w,(sizeOf 133).run Tryz.prog w = .ok 1 w := fun _ => by kernel_rfl
theorem G153 : ∀ w,(isAgg 153).run Tryz.prog w = .ok false w := fun _ => by kernel_rfl
theorem S153 : ∀ w,(sizeOf 153).run Tryz.prog w = .ok 1 w := fun _ => by kernel_rfl
theorem KZ : ∀ w,(isAgg 169).run Tryz.prog w = .ok false w := fun _ => by kernel_rfl
theorem S169 : ∀ w,(sizeOf 169).run Tryz.prog w = .ok 1 w := fun _ => by kernel_rfl
theorem K9 : ∀ w,(isAgg 170).run Tryz.prog w = .ok false w := fun _ => by kernel_rfl
theorem Cy : ∀ w,(isAgg 175).run Tryz.prog w = .ok false w := fun _ => by kernel_rfl
theorem LE : ∀ w,(isAgg 201).run Tryz.prog w = .ok false w := fun _ => by kernel_rfl
theorem S201 : ∀ w,(sizeOf 201).run Tryz.prog w = .ok 1 w := fun _ => by kernel_rfl
theorem G25 : ∀ w,(isAgg 25).run Tryz.prog w = .ok true w := fun _ => by kernel_rfl
theorem S25 : ∀ w,(sizeOf 25).run Tryz.prog w = .ok 5 w := fun _ => by kernel_rfl
theorem G35 : ∀ w,(isAgg 35).run Tryz.prog w = .ok true w := fun _ => by kernel_rfl
theorem S35 : ∀ w,(sizeOf 35).run Tryz.prog w = .ok 4 w := fun _ => by kernel_rfl
theorem G29 : ∀ w,(isAgg 29).run Tryz.prog w = .ok true w := fun _ => by kernel_rfl
theorem S29 : ∀ w,(sizeOf 29).run Tryz.prog w = .ok 3 w := fun _ => by kernel_rfl
theorem G71 : ∀ w,(isAgg 71).run Tryz.prog w = .ok true w := fun _ => by kernel_rfl
theorem S71 : ∀ w,(sizeOf 71).run Tryz.prog w = .ok 4 w := fun _ => by kernel_rfl
theorem G68 : ∀ w,(isAgg 68).run Tryz.prog w = .ok true w := fun _ => by kernel_rfl
theorem S68 : ∀ w,(sizeOf 68).run Tryz.prog w = .ok 9 w := fun _ => by kernel_rfl
theorem G105 : ∀ w,(isAgg 105).run Tryz.prog w = .ok true w := fun _ => by kernel_rfl
theorem LY : ∀ w,(sizeOf 105).run Tryz.prog w = .ok 2 w := fun _ => by kernel_rfl
theorem G66 : ∀ w,(isAgg 66).run Tryz.prog w = .ok true w := fun _ => by kernel_rfl
theorem S66 : ∀ w,(sizeOf 66).run Tryz.prog w = .ok 8 w := fun _ => by kernel_rfl
theorem G60 : ∀ w,(isAgg 60).run Tryz.prog w = .ok true w := fun _ => by kernel_rfl
theorem S60 : ∀ w,(sizeOf 60).run Tryz.prog w = .ok 7 w := fun _ => by kernel_rfl
theorem C4 : Ag Tryz.prog 4 := ⟨_,Tryz.func4,by kernel_rfl,by kernel_rfl⟩
theorem C5 : Ag Tryz.prog 5 := ⟨_,Tryz.func5,by kernel_rfl,by kernel_rfl⟩
theorem C6 : Ag Tryz.prog 6 := ⟨_,Tryz.func6,by kernel_rfl,by kernel_rfl⟩
theorem C7 : Ag Tryz.prog 7 := ⟨_,Tryz.func7,by kernel_rfl,by kernel_rfl⟩
theorem C8 : Ag Tryz.prog 8 := ⟨_,Tryz.func8,by kernel_rfl,by kernel_rfl⟩
theorem C9 : Ag Tryz.prog 9 := ⟨_,Tryz.func9,by kernel_rfl,by kernel_rfl⟩
theorem C10 : Ag Tryz.prog 10 := ⟨_,Tryz.func10,by kernel_rfl,by kernel_rfl⟩
theorem C11 : Ag Tryz.prog 11 := ⟨_,Tryz.func11,by kernel_rfl,by kernel_rfl⟩
theorem C12 : Ag Tryz.prog 12 := ⟨_,Tryz.func12,by kernel_rfl,by kernel_rfl⟩
theorem C13 : Ag Tryz.prog 13 := ⟨_,Tryz.func13,by kernel_rfl,by kernel_rfl⟩
theorem C14 : Ag Tryz.prog 14 := ⟨_,Tryz.func14,by kernel_rfl,by kernel_rfl⟩
theorem C15 : Ag Tryz.prog 15 := ⟨_,Tryz.func15,by kernel_rfl,by kernel_rfl⟩
theorem C16 : Ag Tryz.prog 16 := ⟨_,Tryz.func16,by kernel_rfl,by kernel_rfl⟩
theorem C17 : Ag Tryz.prog 17 := ⟨_,Tryz.func17,by kernel_rfl,by kernel_rfl⟩
theorem C18 : Ag Tryz.prog 18 := ⟨_,Tryz.func18,by kernel_rfl,by kernel_rfl⟩
theorem C19 : Ag Tryz.prog 19 := ⟨_,Tryz.func19,by kernel_rfl,by kernel_rfl⟩
theorem C20 : Ag Tryz.prog 20 := ⟨_,Tryz.func20,by kernel_rfl,by kernel_rfl⟩
theorem C21 : Ag Tryz.prog 21 := ⟨_,Tryz.func21,by kernel_rfl,by kernel_rfl⟩
theorem C22 : Ag Tryz.prog 22 := ⟨_,Tryz.func22,by kernel_rfl,by kernel_rfl⟩
theorem C23 : Ag Tryz.prog 23 := ⟨_,Tryz.func23,by kernel_rfl,by kernel_rfl⟩
theorem C24 : Ag Tryz.prog 24 := ⟨_,Tryz.func24,by kernel_rfl,by kernel_rfl⟩
theorem C25 : Ag Tryz.prog 25 := ⟨_,Tryz.func25,by kernel_rfl,by kernel_rfl⟩
theorem C26 : Ag Tryz.prog 26 := ⟨_,Tryz.func26,by kernel_rfl,by kernel_rfl⟩
theorem C27 : Ag Tryz.prog 27 := ⟨_,Tryz.func27,by kernel_rfl,by kernel_rfl⟩
theorem C28 : Ag Tryz.prog 28 := ⟨_,Tryz.func28,by kernel_rfl,by kernel_rfl⟩
theorem C29 : Ag Tryz.prog 29 := ⟨_,Tryz.func29,by kernel_rfl,by kernel_rfl⟩
theorem C30 : Ag Tryz.prog 30 := ⟨_,Tryz.func30,by kernel_rfl,by kernel_rfl⟩
theorem C31 : Ag Tryz.prog 31 := ⟨_,Tryz.func31,by kernel_rfl,by kernel_rfl⟩
theorem C32 : Ag Tryz.prog 32 := ⟨_,Tryz.func32,by kernel_rfl,by kernel_rfl⟩
theorem C34 : Ag Tryz.prog 34 := ⟨_,Tryz.func34,by kernel_rfl,by kernel_rfl⟩
theorem C36 : Ag Tryz.prog 36 := ⟨_,Tryz.func36,by kernel_rfl,by kernel_rfl⟩
theorem C37 : Ag Tryz.prog 37 := ⟨_,Tryz.func37,by kernel_rfl,by kernel_rfl⟩
theorem C38 : Ag Tryz.prog 38 := ⟨_,Tryz.func38,by kernel_rfl,by kernel_rfl⟩
theorem C39 : Ag Tryz.prog 39 := ⟨_,Tryz.func39,by kernel_rfl,by kernel_rfl⟩
theorem C40 : Ag Tryz.prog 40 := ⟨_,Tryz.func40,by kernel_rfl,by kernel_rfl⟩
theorem C41 : Ag Tryz.prog 41 := ⟨_,Tryz.func41,by kernel_rfl,by kernel_rfl⟩
theorem C42 : Ag Tryz.prog 42 := ⟨_,Tryz.func42,by kernel_rfl,by kernel_rfl⟩
theorem C43 : Ag Tryz.prog 43 := ⟨_,Tryz.func43,by kernel_rfl,by kernel_rfl⟩
theorem C44 : Ag Tryz.prog 44 := ⟨_,Tryz.func44,by kernel_rfl,by kernel_rfl⟩
theorem C45 : Ag Tryz.prog 45 := ⟨_,Tryz.func45,by kernel_rfl,by kernel_rfl⟩
theorem C46 : Ag Tryz.prog 46 := ⟨_,Tryz.func46,by kernel_rfl,by kernel_rfl⟩
theorem C47 : Ag Tryz.prog 47 := ⟨_,Tryz.func47,by kernel_rfl,by kernel_rfl⟩
theorem C48 : Ag Tryz.prog 48 := ⟨_,Tryz.func48,by kernel_rfl,by kernel_rfl⟩
theorem C49 : Ag Tryz.prog 49 := ⟨_,Tryz.func49,by kernel_rfl,by kernel_rfl⟩
theorem C50 : Ag Tryz.prog 50 := ⟨_,Tryz.func50,by kernel_rfl,by kernel_rfl⟩
theorem C51 : Ag Tryz.prog 51 := ⟨_,Tryz.func51,by kernel_rfl,by kernel_rfl⟩
theorem C52 : Ag Tryz.prog 52 := ⟨_,Tryz.func52,by kernel_rfl,by kernel_rfl⟩
theorem C53 : Ag Tryz.prog 53 := ⟨_,Tryz.func53,by kernel_rfl,by kernel_rfl⟩
theorem C54 : Ag Tryz.prog 54 := ⟨_,Tryz.func54,by kernel_rfl,by kernel_rfl⟩
theorem C55 : Ag Tryz.prog 55 := ⟨_,Tryz.func55,by kernel_rfl,by kernel_rfl⟩
theorem C56 : Ag Tryz.prog 56 := ⟨_,Tryz.func56,by kernel_rfl,by kernel_rfl⟩
theorem C57 : Ag Tryz.prog 57 := ⟨_,Tryz.func57,by kernel_rfl,by kernel_rfl⟩
theorem C58 : Ag Tryz.prog 58 := ⟨_,Tryz.func58,by kernel_rfl,by kernel_rfl⟩
theorem C59 : Ag Tryz.prog 59 := ⟨_,Tryz.func59,by kernel_rfl,by kernel_rfl⟩
theorem C61 : Ag Tryz.prog 61 := ⟨_,Tryz.func61,by kernel_rfl,by kernel_rfl⟩
theorem C66 : Ag Tryz.prog 66 := ⟨_,Tryz.func66,by kernel_rfl,by kernel_rfl⟩
theorem C67 : Ag Tryz.prog 67 := ⟨_,Tryz.func67,by kernel_rfl,by kernel_rfl⟩
theorem C68 : Ag Tryz.prog 68 := ⟨_,Tryz.func68,by kernel_rfl,by kernel_rfl⟩
theorem C69 : Ag Tryz.prog 69 := ⟨_,Tryz.func69,by kernel_rfl,by kernel_rfl⟩
theorem C70 : Ag Tryz.prog 70 := ⟨_,Tryz.func70,by kernel_rfl,by kernel_rfl⟩
theorem C71 : Ag Tryz.prog 71 := ⟨_,Tryz.func71,by kernel_rfl,by kernel_rfl⟩
theorem C72 : Ag Tryz.prog 72 := ⟨_,Tryz.func72,by kernel_rfl,by kernel_rfl⟩
theorem C73 : Ag Tryz.prog 73 := ⟨_,Tryz.func73,by kernel_rfl,by kernel_rfl⟩
theorem C74 : Ag Tryz.prog 74 := ⟨_,Tryz.func74,by kernel_rfl,by kernel_rfl⟩
theorem C75 : Ag Tryz.prog 75 := ⟨_,Tryz.func75,by kernel_rfl,by kernel_rfl⟩
theorem C76 : Ag Tryz.prog 76 := ⟨_,Tryz.func76,by kernel_rfl,by kernel_rfl⟩
theorem C78 : Ag Tryz.prog 78 := ⟨_,Tryz.func78,by kernel_rfl,by kernel_rfl⟩
theorem C81 : Ag Tryz.prog 81 := ⟨_,Tryz.func81,by kernel_rfl,by kernel_rfl⟩
theorem C82 : Ag Tryz.prog 82 := ⟨_,Tryz.func82,by kernel_rfl,by kernel_rfl⟩
theorem C83 : Ag Tryz.prog 83 := ⟨_,Tryz.func83,by kernel_rfl,by kernel_rfl⟩
theorem C84 : Ag Tryz.prog 84 := ⟨_,Tryz.func84,by kernel_rfl,by kernel_rfl⟩
theorem C85 : Ag Tryz.prog 85 := ⟨_,Tryz.func85,by kernel_rfl,by kernel_rfl⟩
theorem C86 : Ag Tryz.prog 86 := ⟨_,Tryz.func86,by kernel_rfl,by kernel_rfl⟩
theorem C87 : Ag Tryz.prog 87 := ⟨_,Tryz.func87,by kernel_rfl,by kernel_rfl⟩
theorem C88 : Ag Tryz.prog 88 := ⟨_,Tryz.func88,by kernel_rfl,by kernel_rfl⟩
theorem C89 : Ag Tryz.prog 89 := ⟨_,Tryz.func89,by kernel_rfl,by kernel_rfl⟩
theorem C90 : Ag Tryz.prog 90 := ⟨_,Tryz.func90,by kernel_rfl,by kernel_rfl⟩
theorem C91 : Ag Tryz.prog 91 := ⟨_,Tryz.func91,by kernel_rfl,by kernel_rfl⟩
theorem C92 : Ag Tryz.prog 92 := ⟨_,Tryz.func92,by kernel_rfl,by kernel_rfl⟩
theorem C93 : Ag Tryz.prog 93 := ⟨_,Tryz.func93,by kernel_rfl,by kernel_rfl⟩
theorem C94 : Ag Tryz.prog 94 := ⟨_,Tryz.func94,by kernel_rfl,by kernel_rfl⟩
theorem C95 : Ag Tryz.prog 95 := ⟨_,Tryz.func95,by kernel_rfl,by kernel_rfl⟩
theorem C96 : Ag Tryz.prog 96 := ⟨_,Tryz.func96,by kernel_rfl,by kernel_rfl⟩
theorem C97 : Ag Tryz.prog 97 := ⟨_,Tryz.func97,by kernel_rfl,by kernel_rfl⟩
theorem C98 : Ag Tryz.prog 98 := ⟨_,Tryz.func98,by kernel_rfl,by kernel_rfl⟩
theorem C99 : Ag Tryz.prog 99 := ⟨_,Tryz.func99,by kernel_rfl,by kernel_rfl⟩
theorem C100 : Ag Tryz.prog 100 := ⟨_,Tryz.func100,by kernel_rfl,by kernel_rfl⟩
theorem LH : Ag Tryz.prog 101 := ⟨_,Tryz.func101,by kernel_rfl,by kernel_rfl⟩
theorem C102 : Ag Tryz.prog 102 := ⟨_,Tryz.func102,by kernel_rfl,by kernel_rfl⟩
theorem C103 : Ag Tryz.prog 103 := ⟨_,Tryz.func103,by kernel_rfl,by kernel_rfl⟩
theorem C104 : Ag Tryz.prog 104 := ⟨_,Tryz.func104,by kernel_rfl,by kernel_rfl⟩
theorem LG : Ag Tryz.prog 105 := ⟨_,Tryz.func105,by kernel_rfl,by kernel_rfl⟩
theorem Mh : Ag Tryz.prog 107 := ⟨_,Tryz.func107,by kernel_rfl,by kernel_rfl⟩
theorem Mg : Ag Tryz.prog 108 := ⟨_,Tryz.func108,by kernel_rfl,by kernel_rfl⟩
theorem C109 : Ag Tryz.prog 109 := ⟨_,Tryz.func109,by kernel_rfl,by kernel_rfl⟩
theorem C111 : Ag Tryz.prog 111 := ⟨_,Tryz.func111,by kernel_rfl,by kernel_rfl⟩
theorem Mf : Ag Tryz.prog 113 := ⟨_,Tryz.func113,by kernel_rfl,by kernel_rfl⟩
theorem Md : Ag Tryz.prog 116 := ⟨_,Tryz.func116,by kernel_rfl,by kernel_rfl⟩
theorem C117 : Ag Tryz.prog 117 := ⟨_,Tryz.func117,by kernel_rfl,by kernel_rfl⟩
theorem C118 : Ag Tryz.prog 118 := ⟨_,Tryz.func118,by kernel_rfl,by kernel_rfl⟩
theorem LF : Ag Tryz.prog 119 := ⟨_,Tryz.func119,by kernel_rfl,by kernel_rfl⟩
theorem C120 : Ag Tryz.prog 120 := ⟨_,Tryz.func120,by kernel_rfl,by kernel_rfl⟩
theorem Mc : Ag Tryz.prog 121 := ⟨_,Tryz.func121,by kernel_rfl,by kernel_rfl⟩
theorem C122 : Ag Tryz.prog 122 := ⟨_,Tryz.func122,by kernel_rfl,by kernel_rfl⟩
theorem C124 : Ag Tryz.prog 124 := ⟨_,Tryz.func124,by kernel_rfl,by kernel_rfl⟩
theorem C125 : Ag Tryz.prog 125 := ⟨_,Tryz.func125,by kernel_rfl,by kernel_rfl⟩
theorem Ld : Ag Tryz.prog 127 := ⟨_,Tryz.func127,by kernel_rfl,by kernel_rfl⟩
theorem Lc : Ag Tryz.prog 128 := ⟨_,Tryz.func128,by kernel_rfl,by kernel_rfl⟩
theorem Jq : Ag Tryz.prog 129 := ⟨_,Tryz.func129,by kernel_rfl,by kernel_rfl⟩
theorem C130 : Ag Tryz.prog 130 := ⟨_,Tryz.func130,by kernel_rfl,by kernel_rfl⟩
theorem Lb : Ag Tryz.prog 131 := ⟨_,Tryz.func131,by kernel_rfl,by kernel_rfl⟩
theorem C132 : Ag Tryz.prog 132 := ⟨_,Tryz.func132,by kernel_rfl,by kernel_rfl⟩
theorem C133 : Ag Tryz.prog 133 := ⟨_,Tryz.func133,by kernel_rfl,by kernel_rfl⟩
theorem C134 : Ag Tryz.prog 134 := ⟨_,Tryz.func134,by kernel_rfl,by kernel_rfl⟩
theorem C135 : Ag Tryz.prog 135 := ⟨_,Tryz.func135,by kernel_rfl,by kernel_rfl⟩
theorem C136 : Ag Tryz.prog 136 := ⟨_,Tryz.func136,by kernel_rfl,by kernel_rfl⟩
theorem C137 : Ag Tryz.prog 137 := ⟨_,Tryz.func137,by kernel_rfl,by kernel_rfl⟩
theorem C138 : Ag Tryz.prog 138 := ⟨_,Tryz.func138,by kernel_rfl,by kernel_rfl⟩
theorem C139 : Ag Tryz.prog 139 := ⟨_,Tryz.func139,by kernel_rfl,by kernel_rfl⟩
theorem C140 : Ag Tryz.prog 140 := ⟨_,Tryz.func140,by kernel_rfl,by kernel_rfl⟩
theorem C141 : Ag Tryz.prog 141 := ⟨_,Tryz.func141,by kernel_rfl,by kernel_rfl⟩
theorem Mb : Ag Tryz.prog 142 := ⟨_,Tryz.func142,by kernel_rfl,by kernel_rfl⟩
theorem C143 : Ag Tryz.prog 143 := ⟨_,Tryz.func143,by kernel_rfl,by kernel_rfl⟩
theorem C144 : Ag Tryz.prog 144 := ⟨_,Tryz.func144,by kernel_rfl,by kernel_rfl⟩
theorem C146 : Ag Tryz.prog 146 := ⟨_,Tryz.func146,by kernel_rfl,by kernel_rfl⟩
theorem C147 : Ag Tryz.prog 147 := ⟨_,Tryz.func147,by kernel_rfl,by kernel_rfl⟩
theorem C148 : Ag Tryz.prog 148 := ⟨_,Tryz.func148,by kernel_rfl,by kernel_rfl⟩
theorem C149 : Ag Tryz.prog 149 := ⟨_,Tryz.func149,by kernel_rfl,by kernel_rfl⟩
theorem Ma : Ag Tryz.prog 150 := ⟨_,Tryz.func150,by kernel_rfl,by kernel_rfl⟩
theorem L9 : Ag Tryz.prog 153 := ⟨_,Tryz.func153,by kernel_rfl,by kernel_rfl⟩
theorem L8 : Ag Tryz.prog 154 := ⟨_,Tryz.func154,by kernel_rfl,by kernel_rfl⟩
theorem L7 : Ag Tryz.prog 156 := ⟨_,Tryz.func156,by kernel_rfl,by kernel_rfl⟩
theorem C157 : Ag Tryz.prog 157 := ⟨_,Tryz.func157,by kernel_rfl,by kernel_rfl⟩
theorem C163 : Ag Tryz.prog 163 := ⟨_,Tryz.func163,by kernel_rfl,by kernel_rfl⟩
theorem C164 : Ag Tryz.prog 164 := ⟨_,Tryz.func164,by kernel_rfl,by kernel_rfl⟩
theorem L6 : Ag Tryz.prog 166 := ⟨_,Tryz.func166,by kernel_rfl,by kernel_rfl⟩
theorem C168 : Ag Tryz.prog 168 := ⟨_,Tryz.func168,by kernel_rfl,by kernel_rfl⟩
theorem L5 : Ag Tryz.prog 172 := ⟨_,Tryz.func172,by kernel_rfl,by kernel_rfl⟩
theorem C173 : Ag Tryz.prog 173 := ⟨_,Tryz.func173,by kernel_rfl,by kernel_rfl⟩
theorem C175 : Ag Tryz.prog 175 := ⟨_,Tryz.func175,by kernel_rfl,by kernel_rfl⟩
theorem L4 : Ag Tryz.prog 176 := ⟨_,Tryz.func176,by kernel_rfl,by kernel_rfl⟩
theorem K1 : Ag Tryz.prog 177 := ⟨_,Tryz.func177,by kernel_rfl,by kernel_rfl⟩
theorem C192 : Ag Tryz.prog 192 := ⟨_,Tryz.func192,by kernel_rfl,by kernel_rfl⟩
theorem C193 : Ag Tryz.prog 193 := ⟨_,Tryz.func193,by kernel_rfl,by kernel_rfl⟩
theorem C194 : Ag Tryz.prog 194 := ⟨_,Tryz.func194,by kernel_rfl,by kernel_rfl⟩
theorem C195 : Ag Tryz.prog 195 := ⟨_,Tryz.func195,by kernel_rfl,by kernel_rfl⟩
theorem L3 : Ag Tryz.prog 203 := ⟨_,Tryz.func203,by kernel_rfl,by kernel_rfl⟩
theorem C221 : Ag Tryz.prog 221 := ⟨_,Tryz.func221,by kernel_rfl,by kernel_rfl⟩
theorem La : Ag Tryz.prog 224 := ⟨_,Tryz.func224,by kernel_rfl,by kernel_rfl⟩
theorem C225 : Ag Tryz.prog 225 := ⟨_,Tryz.func225,by kernel_rfl,by kernel_rfl⟩
theorem C226 : Ag Tryz.prog 226 := ⟨_,Tryz.func226,by kernel_rfl,by kernel_rfl⟩
theorem C227 : Ag Tryz.prog 227 := ⟨_,Tryz.func227,by kernel_rfl,by kernel_rfl⟩
theorem C228 : Ag Tryz.prog 228 := ⟨_,Tryz.func228,by kernel_rfl,by kernel_rfl⟩
theorem C229 : Ag Tryz.prog 229 := ⟨_,Tryz.func229,by kernel_rfl,by kernel_rfl⟩
theorem L0 : Ag Tryz.prog 231 := ⟨_,Tryz.func231,by kernel_rfl,by kernel_rfl⟩
theorem C232 : Ag Tryz.prog 232 := ⟨_,Tryz.func232,by kernel_rfl,by kernel_rfl⟩
theorem C233 : Ag Tryz.prog 233 := ⟨_,Tryz.func233,by kernel_rfl,by kernel_rfl⟩
theorem C234 : Ag Tryz.prog 234 := ⟨_,Tryz.func234,by kernel_rfl,by kernel_rfl⟩
theorem C235 : Ag Tryz.prog 235 := ⟨_,Tryz.func235,by kernel_rfl,by kernel_rfl⟩
theorem LZ : Ag Tryz.prog 238 := ⟨_,Tryz.func238,by kernel_rfl,by kernel_rfl⟩
theorem DQ : Fld Tryz.prog 25 0 0 := fun _ _ => by kernel_rfl
theorem Dq : Fld Tryz.prog 25 1 1 := fun _ _ => by kernel_rfl
theorem EG : Fld Tryz.prog 25 2 2 := fun _ _ => by kernel_rfl
theorem Fl : Fld Tryz.prog 25 3 3 := fun _ _ => by kernel_rfl
theorem Dz : Fld Tryz.prog 25 4 4 := fun _ _ => by kernel_rfl
theorem BQ : Fld Tryz.prog 29 0 0 := fun _ _ => by kernel_rfl
theorem Cs : Fld Tryz.prog 29 1 1 := fun _ _ => by kernel_rfl
theorem Dp : Fld Tryz.prog 29 2 2 := fun _ _ => by kernel_rfl
theorem CE : Fld Tryz.prog 35 0 0 := fun _ _ => by kernel_rfl
theorem CT : Fld Tryz.prog 35 1 1 := fun _ _ => by kernel_rfl
theorem Bz : Fld Tryz.prog 35 2 2 := fun _ _ => by kernel_rfl
theorem BP : Fld Tryz.prog 35 3 3 := fun _ _ => by kernel_rfl
theorem J7 : Fld Tryz.prog 60 0 0 := fun _ _ => by kernel_rfl
theorem Lm : Fld Tryz.prog 60 1 4 := fun _ _ => by kernel_rfl
theorem X60_2 : Fld Tryz.prog 60 2 5 := fun _ _ => by kernel_rfl
theorem X60_3 : Fld Tryz.prog 60 3 6 := fun _ _ => by kernel_rfl
theorem J6 : Fld Tryz.prog 63 0 0 := fun _ _ => by kernel_rfl
theorem X63_1 : Fld Tryz.prog 63 1 1 := fun _ _ => by kernel_rfl
theorem DP : Fld Tryz.prog 68 0 0 := fun _ _ => by kernel_rfl
theorem F0 : Fld Tryz.prog 68 1 1 := fun _ _ => by kernel_rfl
theorem DO : Fld Tryz.prog 71 0 0 := fun _ _ => by kernel_rfl
theorem Fk : Fld Tryz.prog 71 1 1 := fun _ _ => by kernel_rfl
theorem IX : Fld Tryz.prog 71 2 2 := fun _ _ => by kernel_rfl
theorem IW : Fld Tryz.prog 71 3 3 := fun _ _ => by kernel_rfl
theorem KS : Fld Tryz.prog 105 0 0 := fun _ _ => by kernel_rfl
theorem KR : Fld Tryz.prog 105 1 1 := fun _ _ => by kernel_rfl
theorem D4 : Fld Tryz.prog 113 0 0 := fun _ _ => by kernel_rfl
theorem EU : Fld Tryz.prog 113 1 1 := fun _ _ => by kernel_rfl
theorem DF : Fld Tryz.prog 120 0 0 := fun _ _ => by kernel_rfl
theorem En : Fld Tryz.prog 120 1 5 := fun _ _ => by kernel_rfl
theorem Jm : Fld Tryz.prog 120 2 6 := fun _ _ => by kernel_rfl
theorem KQ : Fld Tryz.prog 120 3 7 := fun _ _ => by kernel_rfl
theorem FQ : Fld Tryz.prog 120 4 8 := fun _ _ => by kernel_rfl
theorem Jl : Fld Tryz.prog 120 5 9 := fun _ _ => by kernel_rfl
theorem FP : Fld Tryz.prog 126 0 0 := fun _ _ => by kernel_rfl
theorem Jk : Fld Tryz.prog 126 1 4 := fun _ _ => by kernel_rfl
theorem G6 : Fld Tryz.prog 126 2 5 := fun _ _ => by kernel_rfl
theorem FO : Fld Tryz.prog 129 0 0 := fun _ _ => by kernel_rfl
theorem D3 : Fld Tryz.prog 129 1 3 := fun _ _ => by kernel_rfl
theorem G2 : Fld Tryz.prog 129 2 4 := fun _ _ => by kernel_rfl
theorem CO : Fld Tryz.prog 132 0 0 := fun _ _ => by kernel_rfl
theorem Ic : Fld Tryz.prog 132 1 3 := fun _ _ => by kernel_rfl
theorem Dr : Fld Tryz.prog 138 0 0 := fun _ _ => by kernel_rfl
theorem FN : Fld Tryz.prog 138 1 1 := fun _ _ => by kernel_rfl
theorem X144_0 : Fld Tryz.prog 144 0 0 := fun _ _ => by kernel_rfl
theorem KP : Fld Tryz.prog 164 0 0 := fun _ _ => by kernel_rfl
theorem FM : Fld Tryz.prog 177 0 0 := fun _ _ => by kernel_rfl
theorem Jj : Fld Tryz.prog 177 1 1 := fun _ _ => by kernel_rfl
theorem X177_2 : Fld Tryz.prog 177 2 2 := fun _ _ => by kernel_rfl
theorem Ji : Fld Tryz.prog 234 0 0 := fun _ _ => by kernel_rfl
theorem Ib : Fld Tryz.prog 234 1 3 := fun _ _ => by kernel_rfl
end
section
theorem Ey {α : Type} (L : List α) (z : α) (n k : Nat) (hn : L.length = n) (h : k < L.length) : (L.take k ++ List.replicate (n - k) z).set k L[k] = L.take (k + 1) ++ List.replicate (n - (k + 1)) z := by
 subst hn
 have hk : (L.take k).length = k := by simp; omega
 rw [List.set_append_right _ _ (by omega),hk,Nat.sub_self,show L.length - k = (L.length - (k + 1)) + 1 by omega,List.replicate_succ,List.set_cons_zero,List.take_succ_eq_append_getElem h,List.append_assoc,List.singleton_append]
theorem Fg {α : Type} (L : List α) (z : α) (n : Nat) (hn : L.length = n) : L.take n ++ List.replicate (n - n) z = L := by
 subst hn; simp
end
end Go.Proofs.YtmjllchdhcdinaaGreatDoor
