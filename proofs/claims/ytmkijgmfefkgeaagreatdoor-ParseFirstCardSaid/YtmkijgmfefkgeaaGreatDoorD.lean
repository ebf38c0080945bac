/- Facts on the types and functions of the translation, by the kernel. No condition. -/
import Derived.Test.YtmkijgmfefkgeaaGreatDoorB2
import Derived.Test.YtmkijgmfefkgeaaGreatDoorProg
set_option autoImplicit false
namespace Go.Proofs.YtmkijgmfefkgeaaGreatDoor
open Go
noncomputable abbrev Pg : Program := Tryz.prog
theorem hm : Pg.follows .mixedOrders = true := by kernel_rfl
theorem sc2 : scB Pg 2 = true := by kernel_rfl
theorem sz2 : (Pg.info? 2).map (·.size) = some 1 := by kernel_rfl
theorem zc2 : zcN Pg 2 = some [.int .i64 0] := by kernel_rfl
theorem sc3 : scB Pg 3 = true := by kernel_rfl
theorem sz3 : (Pg.info? 3).map (·.size) = some 1 := by kernel_rfl
theorem zc3 : zcN Pg 3 = some [.int .i64 0] := by kernel_rfl
theorem sc4 : scB Pg 4 = true := by kernel_rfl
theorem sz4 : (Pg.info? 4).map (·.size) = some 1 := by kernel_rfl
theorem zc4 : zcN Pg 4 = some [.bool false] := by kernel_rfl
theorem sc5 : scB Pg 5 = true := by kernel_rfl
theorem sz5 : (Pg.info? 5).map (·.size) = some 1 := by kernel_rfl
theorem zc5 : zcN Pg 5 = some [.int .u8 0] := by kernel_rfl
theorem sc9 : scB Pg 9 = true := by kernel_rfl
theorem sz9 : (Pg.info? 9).map (·.size) = some 1 := by kernel_rfl
theorem zc9 : zcN Pg 9 = some [.string ⟨#[]⟩] := by kernel_rfl
theorem sc23 : scB Pg 23 = true := by kernel_rfl
theorem sz23 : (Pg.info? 23).map (·.size) = some 1 := by kernel_rfl
theorem zc23 : zcN Pg 23 = some [.slice none 0 0] := by kernel_rfl
theorem sl23 : slN Pg 23 = some (43, 7, 80) := by kernel_rfl
theorem ag25 : agN Pg 25 = some 1 := by kernel_rfl
theorem sz25 : (Pg.info? 25).map (·.size) = some 1 := by kernel_rfl
theorem zc25 : zcN Pg 25 = some [.slice none 0 0] := by kernel_rfl
theorem sc26 : scB Pg 26 = true := by kernel_rfl
theorem sz26 : (Pg.info? 26).map (·.size) = some 1 := by kernel_rfl
theorem zc26 : zcN Pg 26 = some [.int .i64 0] := by kernel_rfl
theorem ag28 : agN Pg 28 = some 2 := by kernel_rfl
theorem sz28 : (Pg.info? 28).map (·.size) = some 2 := by kernel_rfl
theorem zc28 : zcN Pg 28 = some [.int .i64 0, .int .i64 0] := by kernel_rfl
theorem sc31 : scB Pg 31 = true := by kernel_rfl
theorem sz31 : (Pg.info? 31).map (·.size) = some 1 := by kernel_rfl
theorem zc31 : zcN Pg 31 = some [.slice none 0 0] := by kernel_rfl
theorem sl31 : slN Pg 31 = some (38, 3, 32) := by kernel_rfl
theorem ag38 : agN Pg 38 = some 3 := by kernel_rfl
theorem sz38 : (Pg.info? 38).map (·.size) = some 3 := by kernel_rfl
theorem zc38 : zcN Pg 38 = some [.int .i64 0, .string ⟨#[]⟩, .int .i64 0] := by kernel_rfl
theorem sc41 : scB Pg 41 = true := by kernel_rfl
theorem sz41 : (Pg.info? 41).map (·.size) = some 1 := by kernel_rfl
theorem zc41 : zcN Pg 41 = some [.slice none 0 0] := by kernel_rfl
theorem sl41 : slN Pg 41 = some (3, 1, 8) := by kernel_rfl
theorem ag43 : agN Pg 43 = some 7 := by kernel_rfl
theorem sz43 : (Pg.info? 43).map (·.size) = some 7 := by kernel_rfl
theorem zc43 : zcN Pg 43 = some [.int .i64 0, .string ⟨#[]⟩, .int .i64 0, .slice none 0 0, .int .i64 0, .int .i64 0, .int .i64 0] := by kernel_rfl
theorem sc48 : scB Pg 48 = true := by kernel_rfl
theorem sz48 : (Pg.info? 48).map (·.size) = some 1 := by kernel_rfl
theorem zc48 : zcN Pg 48 = some [.slice none 0 0] := by kernel_rfl
theorem sl48 : slN Pg 48 = some (50, 4, 40) := by kernel_rfl
theorem ag50 : agN Pg 50 = some 4 := by kernel_rfl
theorem sz50 : (Pg.info? 50).map (·.size) = some 4 := by kernel_rfl
theorem zc50 : zcN Pg 50 = some [.int .i64 0, .int .i64 0, .int .i64 0, .string ⟨#[]⟩] := by kernel_rfl
theorem sc64 : scB Pg 64 = true := by kernel_rfl
theorem sz64 : (Pg.info? 64).map (·.size) = some 1 := by kernel_rfl
theorem zc64 : zcN Pg 64 = some [.slice none 0 0] := by kernel_rfl
theorem sl64 : slN Pg 64 = some (9, 1, 16) := by kernel_rfl
theorem ag76 : agN Pg 76 = some 3 := by kernel_rfl
theorem sz76 : (Pg.info? 76).map (·.size) = some 3 := by kernel_rfl
theorem zc76 : zcN Pg 76 = some [.slice none 0 0, .int .i64 0, .bool false] := by kernel_rfl
theorem sc77 : scB Pg 77 = true := by kernel_rfl
theorem sz77 : (Pg.info? 77).map (·.size) = some 1 := by kernel_rfl
theorem zc77 : zcN Pg 77 = some [.slice none 0 0] := by kernel_rfl
theorem sl77 : slN Pg 77 = some (79, 9, 112) := by kernel_rfl
theorem ag79 : agN Pg 79 = some 9 := by kernel_rfl
theorem sz79 : (Pg.info? 79).map (·.size) = some 9 := by kernel_rfl
theorem zc79 : zcN Pg 79 = some [.int .i64 0, .string ⟨#[]⟩, .int .i64 0, .slice none 0 0, .int .i64 0, .int .i64 0, .int .i64 0, .int .i64 0, .slice none 0 0] := by kernel_rfl
theorem sc93 : scB Pg 93 = true := by kernel_rfl
theorem sz93 : (Pg.info? 93).map (·.size) = some 1 := by kernel_rfl
theorem zc93 : zcN Pg 93 = some [.pointer none] := by kernel_rfl
theorem sc94 : scB Pg 94 = true := by kernel_rfl
theorem sz94 : (Pg.info? 94).map (·.size) = some 1 := by kernel_rfl
theorem zc94 : zcN Pg 94 = some [.slice none 0 0] := by kernel_rfl
theorem sl94 : slN Pg 94 = some (5, 1, 1) := by kernel_rfl
theorem ag96 : agN Pg 96 = some 2 := by kernel_rfl
theorem sz96 : (Pg.info? 96).map (·.size) = some 2 := by kernel_rfl
theorem zc96 : zcN Pg 96 = some [.pointer none, .slice none 0 0] := by kernel_rfl
theorem sc98 : scB Pg 98 = true := by kernel_rfl
theorem sz98 : (Pg.info? 98).map (·.size) = some 1 := by kernel_rfl
theorem zc98 : zcN Pg 98 = some [.nilIface] := by kernel_rfl
theorem sc104 : scB Pg 104 = true := by kernel_rfl
theorem sz104 : (Pg.info? 104).map (·.size) = some 1 := by kernel_rfl
theorem zc104 : zcN Pg 104 = some [.pointer none] := by kernel_rfl
theorem ag106 : agN Pg 106 = some 4 := by kernel_rfl
theorem sz106 : (Pg.info? 106).map (·.size) = some 4 := by kernel_rfl
theorem zc106 : zcN Pg 106 = some [.pointer none, .slice none 0 0, .slice none 0 0, .int .i64 0] := by kernel_rfl
theorem sc124 : scB Pg 124 = true := by kernel_rfl
theorem sz124 : (Pg.info? 124).map (·.size) = some 1 := by kernel_rfl
theorem zc124 : zcN Pg 124 = some [.pointer none] := by kernel_rfl
theorem ag126 : agN Pg 126 = some 3 := by kernel_rfl
theorem sz126 : (Pg.info? 126).map (·.size) = some 3 := by kernel_rfl
theorem zc126 : zcN Pg 126 = some [.slice none 0 0, .int .i64 0, .slice none 0 0] := by kernel_rfl
theorem ag128 : agN Pg 128 = some 1 := by kernel_rfl
theorem sz128 : (Pg.info? 128).map (·.size) = some 1 := by kernel_rfl
theorem zc128 : zcN Pg 128 = some [.int .i64 0] := by kernel_rfl
theorem sc131 : scB Pg 131 = true := by kernel_rfl
theorem sz131 : (Pg.info? 131).map (·.size) = some 1 := by kernel_rfl
theorem zc131 : zcN Pg 131 = some [.pointer none] := by kernel_rfl
theorem ag138 : agN Pg 138 = some 3 := by kernel_rfl
theorem sz138 : (Pg.info? 138).map (·.size) = some 3 := by kernel_rfl
theorem zc138 : zcN Pg 138 = some [.slice none 0 0, .slice none 0 0, .bool false] := by kernel_rfl
theorem sc145 : scB Pg 145 = true := by kernel_rfl
theorem sz145 : (Pg.info? 145).map (·.size) = some 1 := by kernel_rfl
theorem zc145 : zcN Pg 145 = some [.int .u64 0] := by kernel_rfl
theorem ag146 : agN Pg 146 = some 6 := by kernel_rfl
theorem sz146 : (Pg.info? 146).map (·.size) = some 6 := by kernel_rfl
theorem zc146 : zcN Pg 146 = some [.string ⟨#[]⟩, .string ⟨#[]⟩, .string ⟨#[]⟩, .string ⟨#[]⟩, .string ⟨#[]⟩, .string ⟨#[]⟩] := by kernel_rfl
theorem sc148 : scB Pg 148 = true := by kernel_rfl
theorem sz148 : (Pg.info? 148).map (·.size) = some 1 := by kernel_rfl
theorem zc148 : zcN Pg 148 = some [.nilFunc] := by kernel_rfl
theorem sc149 : scB Pg 149 = true := by kernel_rfl
theorem sz149 : (Pg.info? 149).map (·.size) = some 1 := by kernel_rfl
theorem zc149 : zcN Pg 149 = some [.slice none 0 0] := by kernel_rfl
theorem sl149 : slN Pg 149 = some (131, 1, 8) := by kernel_rfl
theorem ag151 : agN Pg 151 = some 9 := by kernel_rfl
theorem sz151 : (Pg.info? 151).map (·.size) = some 9 := by kernel_rfl
theorem zc151 : zcN Pg 151 = some [.int .i64 0, .string ⟨#[]⟩, .int .i64 0, .slice none 0 0, .int .i64 0, .int .i64 0, .int .i64 0, .slice none 0 0, .int .i64 0] := by kernel_rfl
theorem sc160 : scB Pg 160 = true := by kernel_rfl
theorem sz160 : (Pg.info? 160).map (·.size) = some 1 := by kernel_rfl
theorem zc160 : zcN Pg 160 = some [.nilFunc] := by kernel_rfl
theorem sc168 : scB Pg 168 = true := by kernel_rfl
theorem sz168 : (Pg.info? 168).map (·.size) = some 1 := by kernel_rfl
theorem zc168 : zcN Pg 168 = some [.nilFunc] := by kernel_rfl
theorem sc189 : scB Pg 189 = true := by kernel_rfl
theorem sz189 : (Pg.info? 189).map (·.size) = some 1 := by kernel_rfl
theorem zc189 : zcN Pg 189 = some [.slice none 0 0] := by kernel_rfl
theorem sl189 : slN Pg 189 = some (64, 1, 24) := by kernel_rfl
theorem ag195 : agN Pg 195 = some 24 := by kernel_rfl
theorem sz195 : (Pg.info? 195).map (·.size) = some 24 := by kernel_rfl
theorem zc195 : zcN Pg 195 = some [.int .u8 0, .int .u8 0, .int .u8 0, .int .u8 0, .int .u8 0, .int .u8 0, .int .u8 0, .int .u8 0, .int .u8 0, .int .u8 0, .int .u8 0, .int .u8 0, .int .u8 0, .int .u8 0, .int .u8 0, .int .u8 0, .int .u8 0, .int .u8 0, .int .u8 0, .int .u8 0, .int .u8 0, .int .u8 0, .int .u8 0, .int .u8 0] := by kernel_rfl
theorem ag201 : agN Pg 201 = some 3 := by kernel_rfl
theorem sz201 : (Pg.info? 201).map (·.size) = some 3 := by kernel_rfl
theorem zc201 : zcN Pg 201 = some [.string ⟨#[]⟩, .string ⟨#[]⟩, .string ⟨#[]⟩] := by kernel_rfl
theorem ag207 : agN Pg 207 = some 3 := by kernel_rfl
theorem sz207 : (Pg.info? 207).map (·.size) = some 3 := by kernel_rfl
theorem zc207 : zcN Pg 207 = some [.string ⟨#[]⟩, .string ⟨#[]⟩, .nilIface] := by kernel_rfl
theorem ag213 : agN Pg 213 = some 20 := by kernel_rfl
theorem sz213 : (Pg.info? 213).map (·.size) = some 20 := by kernel_rfl
theorem zc213 : zcN Pg 213 = some [.int .u64 0, .int .u64 0, .int .u64 0, .int .u64 0, .int .u64 0, .int .u64 0, .int .u64 0, .int .u64 0, .int .u64 0, .int .u64 0, .int .u64 0, .int .u64 0, .int .u64 0, .int .u64 0, .int .u64 0, .int .u64 0, .int .u64 0, .int .u64 0, .int .u64 0, .int .u64 0] := by kernel_rfl
theorem ag214 : agN Pg 214 = some 65 := by kernel_rfl
theorem sz214 : (Pg.info? 214).map (·.size) = some 65 := by kernel_rfl
theorem ag218 : agN Pg 218 = some 1 := by kernel_rfl
theorem sz218 : (Pg.info? 218).map (·.size) = some 1 := by kernel_rfl
theorem zc218 : zcN Pg 218 = some [.string ⟨#[]⟩] := by kernel_rfl
theorem ag221 : agN Pg 221 = some 32 := by kernel_rfl
theorem sz221 : (Pg.info? 221).map (·.size) = some 32 := by kernel_rfl
theorem ag222 : agN Pg 222 = some 64 := by kernel_rfl
theorem sz222 : (Pg.info? 222).map (·.size) = some 64 := by kernel_rfl
theorem pl25 : plN Pg 25 = some [(0, 1)] := by kernel_rfl
theorem pl28 : plN Pg 28 = some [(0, 1), (1, 1)] := by kernel_rfl
theorem pl38 : plN Pg 38 = some [(0, 1), (1, 1), (2, 1)] := by kernel_rfl
theorem pl43 : plN Pg 43 = some [(0, 1), (1, 1), (2, 1), (3, 1), (4, 1), (5, 1), (6, 1)] := by kernel_rfl
theorem pl76 : plN Pg 76 = some [(0, 1), (1, 1), (2, 1)] := by kernel_rfl
theorem pl79 : plN Pg 79 = some [(0, 7), (7, 1), (8, 1)] := by kernel_rfl
theorem pl106 : plN Pg 106 = some [(0, 2), (2, 1), (3, 1)] := by kernel_rfl
theorem pl126 : plN Pg 126 = some [(0, 1), (1, 1), (2, 1)] := by kernel_rfl
theorem pl128 : plN Pg 128 = some [(0, 1)] := by kernel_rfl
theorem pl138 : plN Pg 138 = some [(0, 1), (1, 1), (2, 1)] := by kernel_rfl
theorem pl151 : plN Pg 151 = some [(0, 7), (7, 1), (8, 1)] := by kernel_rfl
theorem pl207 : plN Pg 207 = some [(0, 1), (1, 1), (2, 1)] := by kernel_rfl
theorem pl218 : plN Pg 218 = some [(0, 1)] := by kernel_rfl
theorem pp15 : Pg.underlying 15 = some (.pointer (Pg.pointee 15)) := by kernel_rfl
theorem pp16 : Pg.underlying 16 = some (.pointer (Pg.pointee 16)) := by kernel_rfl
theorem pp17 : Pg.underlying 17 = some (.pointer (Pg.pointee 17)) := by kernel_rfl
theorem pp74 : Pg.underlying 74 = some (.pointer (Pg.pointee 74)) := by kernel_rfl
theorem pp93 : Pg.underlying 93 = some (.pointer (Pg.pointee 93)) := by kernel_rfl
theorem pp104 : Pg.underlying 104 = some (.pointer (Pg.pointee 104)) := by kernel_rfl
theorem pp124 : Pg.underlying 124 = some (.pointer (Pg.pointee 124)) := by kernel_rfl
theorem pp131 : Pg.underlying 131 = some (.pointer (Pg.pointee 131)) := by kernel_rfl
theorem pp136 : Pg.underlying 136 = some (.pointer (Pg.pointee 136)) := by kernel_rfl
theorem pp140 : Pg.underlying 140 = some (.pointer (Pg.pointee 140)) := by kernel_rfl
theorem pp186 : Pg.underlying 186 = some (.pointer (Pg.pointee 186)) := by kernel_rfl
theorem pp216 : Pg.underlying 216 = some (.pointer (Pg.pointee 216)) := by kernel_rfl
theorem fo25_0 : foN Pg 25 0 = some 0 := by kernel_rfl
theorem fo28_0 : foN Pg 28 0 = some 0 := by kernel_rfl
theorem fo28_1 : foN Pg 28 1 = some 1 := by kernel_rfl
theorem fo38_0 : foN Pg 38 0 = some 0 := by kernel_rfl
theorem fo38_1 : foN Pg 38 1 = some 1 := by kernel_rfl
theorem fo38_2 : foN Pg 38 2 = some 2 := by kernel_rfl
theorem fo43_0 : foN Pg 43 0 = some 0 := by kernel_rfl
theorem fo43_1 : foN Pg 43 1 = some 1 := by kernel_rfl
theorem fo43_2 : foN Pg 43 2 = some 2 := by kernel_rfl
theorem fo43_3 : foN Pg 43 3 = some 3 := by kernel_rfl
theorem fo43_4 : foN Pg 43 4 = some 4 := by kernel_rfl
theorem fo43_5 : foN Pg 43 5 = some 5 := by kernel_rfl
theorem fo43_6 : foN Pg 43 6 = some 6 := by kernel_rfl
theorem fo50_0 : foN Pg 50 0 = some 0 := by kernel_rfl
theorem fo50_1 : foN Pg 50 1 = some 1 := by kernel_rfl
theorem fo50_2 : foN Pg 50 2 = some 2 := by kernel_rfl
theorem fo50_3 : foN Pg 50 3 = some 3 := by kernel_rfl
theorem fo76_0 : foN Pg 76 0 = some 0 := by kernel_rfl
theorem fo76_1 : foN Pg 76 1 = some 1 := by kernel_rfl
theorem fo76_2 : foN Pg 76 2 = some 2 := by kernel_rfl
theorem fo79_0 : foN Pg 79 0 = some 0 := by kernel_rfl
theorem fo79_1 : foN Pg 79 1 = some 7 := by kernel_rfl
theorem fo79_2 : foN Pg 79 2 = some 8 := by kernel_rfl
theorem fo96_0 : foN Pg 96 0 = some 0 := by kernel_rfl
theorem fo96_1 : foN Pg 96 1 = some 1 := by kernel_rfl
theorem fo106_0 : foN Pg 106 0 = some 0 := by kernel_rfl
theorem fo106_1 : foN Pg 106 1 = some 2 := by kernel_rfl
theorem fo106_2 : foN Pg 106 2 = some 3 := by kernel_rfl
theorem fo126_0 : foN Pg 126 0 = some 0 := by kernel_rfl
theorem fo126_1 : foN Pg 126 1 = some 1 := by kernel_rfl
theorem fo126_2 : foN Pg 126 2 = some 2 := by kernel_rfl
theorem fo128_0 : foN Pg 128 0 = some 0 := by kernel_rfl
theorem fo138_0 : foN Pg 138 0 = some 0 := by kernel_rfl
theorem fo138_1 : foN Pg 138 1 = some 1 := by kernel_rfl
theorem fo138_2 : foN Pg 138 2 = some 2 := by kernel_rfl
theorem fo151_0 : foN Pg 151 0 = some 0 := by kernel_rfl
theorem fo151_1 : foN Pg 151 1 = some 7 := by kernel_rfl
theorem fo151_2 : foN Pg 151 2 = some 8 := by kernel_rfl
theorem fs38_0 : fsN Pg 38 0 = some 0 := by kernel_rfl
theorem fs38_1 : fsN Pg 38 1 = some 1 := by kernel_rfl
theorem fs38_2 : fsN Pg 38 2 = some 2 := by kernel_rfl
theorem nif9 : nifB Pg 9 = true := by kernel_rfl
theorem nif128 : nifB Pg 128 = true := by kernel_rfl
theorem nif183 : nifB Pg 183 = true := by kernel_rfl
theorem nif186 : nifB Pg 186 = true := by kernel_rfl
theorem nif216 : nifB Pg 216 = true := by kernel_rfl
theorem cf13 : CF Pg 13 := cf_of Tryz.func13 (by decide) rfl
theorem cf14 : CF Pg 14 := cf_of Tryz.func14 (by decide) rfl
theorem cf15 : CF Pg 15 := cf_of Tryz.func15 (by decide) rfl
theorem cf16 : CF Pg 16 := cf_of Tryz.func16 (by decide) rfl
theorem cf17 : CF Pg 17 := cf_of Tryz.func17 (by decide) rfl
theorem cf18 : CF Pg 18 := cf_of Tryz.func18 (by decide) rfl
theorem cf19 : CF Pg 19 := cf_of Tryz.func19 (by decide) rfl
theorem cf20 : CF Pg 20 := cf_of Tryz.func20 (by decide) rfl
theorem cf21 : CF Pg 21 := cf_of Tryz.func21 (by decide) rfl
theorem cf22 : CF Pg 22 := cf_of Tryz.func22 (by decide) rfl
theorem cf23 : CF Pg 23 := cf_of Tryz.func23 (by decide) rfl
theorem cf24 : CF Pg 24 := cf_of Tryz.func24 (by decide) rfl
theorem cf25 : CF Pg 25 := cf_of Tryz.func25 (by decide) rfl
theorem cf26 : CF Pg 26 := cf_of Tryz.func26 (by decide) rfl
theorem cf27 : CF Pg 27 := cf_of Tryz.func27 (by decide) rfl
theorem cf28 : CF Pg 28 := cf_of Tryz.func28 (by decide) rfl
theorem cf29 : CF Pg 29 := cf_of Tryz.func29 (by decide) rfl
theorem cf30 : CF Pg 30 := cf_of Tryz.func30 (by decide) rfl
theorem cf31 : CF Pg 31 := cf_of Tryz.func31 (by decide) rfl
theorem cf32 : CF Pg 32 := cf_of Tryz.func32 (by decide) rfl
theorem cf33 : CF Pg 33 := cf_of Tryz.func33 (by decide) rfl
theorem cf34 : CF Pg 34 := cf_of Tryz.func34 (by decide) rfl
theorem cf35 : CF Pg 35 := cf_of Tryz.func35 (by decide) rfl
theorem cf36 : CF Pg 36 := cf_of Tryz.func36 (by decide) rfl
theorem cf37 : CF Pg 37 := cf_of Tryz.func37 (by decide) rfl
theorem cf38 : CF Pg 38 := cf_of Tryz.func38 (by decide) rfl
theorem cf39 : CF Pg 39 := cf_of Tryz.func39 (by decide) rfl
theorem cf40 : CF Pg 40 := cf_of Tryz.func40 (by decide) rfl
theorem cf41 : CF Pg 41 := cf_of Tryz.func41 (by decide) rfl
theorem cf42 : CF Pg 42 := cf_of Tryz.func42 (by decide) rfl
theorem cf43 : CF Pg 43 := cf_of Tryz.func43 (by decide) rfl
theorem cf44 : CF Pg 44 := cf_of Tryz.func44 (by decide) rfl
theorem cf45 : CF Pg 45 := cf_of Tryz.func45 (by decide) rfl
theorem cf46 : CF Pg 46 := cf_of Tryz.func46 (by decide) rfl
theorem cf47 : CF Pg 47 := cf_of Tryz.func47 (by decide) rfl
theorem cf48 : CF Pg 48 := cf_of Tryz.func48 (by decide) rfl
theorem cf49 : CF Pg 49 := cf_of Tryz.func49 (by decide) rfl
theorem cf50 : CF Pg 50 := cf_of Tryz.func50 (by decide) rfl
theorem cf51 : CF Pg 51 := cf_of Tryz.func51 (by decide) rfl
theorem cf52 : CF Pg 52 := cf_of Tryz.func52 (by decide) rfl
theorem cf53 : CF Pg 53 := cf_of Tryz.func53 (by decide) rfl
theorem cf54 : CF Pg 54 := cf_of Tryz.func54 (by decide) rfl
theorem cf55 : CF Pg 55 := cf_of Tryz.func55 (by decide) rfl
theorem cf56 : CF Pg 56 := cf_of Tryz.func56 (by decide) rfl
theorem cf57 : CF Pg 57 := cf_of Tryz.func57 (by decide) rfl
theorem cf58 : CF Pg 58 := cf_of Tryz.func58 (by decide) rfl
theorem cf59 : CF Pg 59 := cf_of Tryz.func59 (by decide) rfl
theorem cf60 : CF Pg 60 := cf_of Tryz.func60 (by decide) rfl
theorem cf61 : CF Pg 61 := cf_of Tryz.func61 (by decide) rfl
theorem cf62 : CF Pg 62 := cf_of Tryz.func62 (by decide) rfl
theorem cf63 : CF Pg 63 := cf_of Tryz.func63 (by decide) rfl
theorem cf64 : CF Pg 64 := cf_of Tryz.func64 (by decide) rfl
theorem cf65 : CF Pg 65 := cf_of Tryz.func65 (by decide) rfl
theorem cf66 : CF Pg 66 := cf_of Tryz.func66 (by decide) rfl
theorem cf67 : CF Pg 67 := cf_of Tryz.func67 (by decide) rfl
theorem cf68 : CF Pg 68 := cf_of Tryz.func68 (by decide) rfl
theorem cf69 : CF Pg 69 := cf_of Tryz.func69 (by decide) rfl
theorem cf70 : CF Pg 70 := cf_of Tryz.func70 (by decide) rfl
theorem cf71 : CF Pg 71 := cf_of Tryz.func71 (by decide) rfl
theorem cf72 : CF Pg 72 := cf_of Tryz.func72 (by decide) rfl
theorem cf73 : CF Pg 73 := cf_of Tryz.func73 (by decide) rfl
theorem cf74 : CF Pg 74 := cf_of Tryz.func74 (by decide) rfl
theorem cf75 : CF Pg 75 := cf_of Tryz.func75 (by decide) rfl
theorem cf76 : CF Pg 76 := cf_of Tryz.func76 (by decide) rfl
theorem cf77 : CF Pg 77 := cf_of Tryz.func77 (by decide) rfl
theorem cf78 : CF Pg 78 := cf_of Tryz.func78 (by decide) rfl
theorem cf79 : CF Pg 79 := cf_of Tryz.func79 (by decide) rfl
theorem cf80 : CF Pg 80 := cf_of Tryz.func80 (by decide) rfl
theorem cf81 : CF Pg 81 := cf_of Tryz.func81 (by decide) rfl
theorem cf82 : CF Pg 82 := cf_of Tryz.func82 (by decide) rfl
theorem cf83 : CF Pg 83 := cf_of Tryz.func83 (by decide) rfl
theorem cf84 : CF Pg 84 := cf_of Tryz.func84 (by decide) rfl
theorem cf85 : CF Pg 85 := cf_of Tryz.func85 (by decide) rfl
theorem cf86 : CF Pg 86 := cf_of Tryz.func86 (by decide) rfl
theorem cf87 : CF Pg 87 := cf_of Tryz.func87 (by decide) rfl
theorem cf88 : CF Pg 88 := cf_of Tryz.func88 (by decide) rfl
theorem cf89 : CF Pg 89 := cf_of Tryz.func89 (by decide) rfl
theorem cf90 : CF Pg 90 := cf_of Tryz.func90 (by decide) rfl
theorem cf91 : CF Pg 91 := cf_of Tryz.func91 (by decide) rfl
theorem cf92 : CF Pg 92 := cf_of Tryz.func92 (by decide) rfl
theorem cf93 : CF Pg 93 := cf_of Tryz.func93 (by decide) rfl
theorem cf94 : CF Pg 94 := cf_of Tryz.func94 (by decide) rfl
theorem cf95 : CF Pg 95 := cf_of Tryz.func95 (by decide) rfl
theorem cf96 : CF Pg 96 := cf_of Tryz.func96 (by decide) rfl
theorem cf97 : CF Pg 97 := cf_of Tryz.func97 (by decide) rfl
theorem cf98 : CF Pg 98 := cf_of Tryz.func98 (by decide) rfl
theorem cf99 : CF Pg 99 := cf_of Tryz.func99 (by decide) rfl
theorem cf100 : CF Pg 100 := cf_of Tryz.func100 (by decide) rfl
theorem cf101 : CF Pg 101 := cf_of Tryz.func101 (by decide) rfl
theorem cf102 : CF Pg 102 := cf_of Tryz.func102 (by decide) rfl
theorem cf103 : CF Pg 103 := cf_of Tryz.func103 (by decide) rfl
theorem cf104 : CF Pg 104 := cf_of Tryz.func104 (by decide) rfl
theorem cf105 : CF Pg 105 := cf_of Tryz.func105 (by decide) rfl
theorem cf106 : CF Pg 106 := cf_of Tryz.func106 (by decide) rfl
theorem cf107 : CF Pg 107 := cf_of Tryz.func107 (by decide) rfl
theorem cf108 : CF Pg 108 := cf_of Tryz.func108 (by decide) rfl
theorem cf109 : CF Pg 109 := cf_of Tryz.func109 (by decide) rfl
theorem cf110 : CF Pg 110 := cf_of Tryz.func110 (by decide) rfl
theorem cf111 : CF Pg 111 := cf_of Tryz.func111 (by decide) rfl
theorem cf112 : CF Pg 112 := cf_of Tryz.func112 (by decide) rfl
theorem cf113 : CF Pg 113 := cf_of Tryz.func113 (by decide) rfl
theorem cf114 : CF Pg 114 := cf_of Tryz.func114 (by decide) rfl
theorem cf115 : CF Pg 115 := cf_of Tryz.func115 (by decide) rfl
theorem cf116 : CF Pg 116 := cf_of Tryz.func116 (by decide) rfl
theorem cf117 : CF Pg 117 := cf_of Tryz.func117 (by decide) rfl
theorem cf118 : CF Pg 118 := cf_of Tryz.func118 (by decide) rfl
theorem cf119 : CF Pg 119 := cf_of Tryz.func119 (by decide) rfl
theorem cf120 : CF Pg 120 := cf_of Tryz.func120 (by decide) rfl
theorem cf121 : CF Pg 121 := cf_of Tryz.func121 (by decide) rfl
theorem cf122 : CF Pg 122 := cf_of Tryz.func122 (by decide) rfl
theorem cf123 : CF Pg 123 := cf_of Tryz.func123 (by decide) rfl
theorem cf124 : CF Pg 124 := cf_of Tryz.func124 (by decide) rfl
theorem cf125 : CF Pg 125 := cf_of Tryz.func125 (by decide) rfl
theorem cf126 : CF Pg 126 := cf_of Tryz.func126 (by decide) rfl
theorem cf127 : CF Pg 127 := cf_of Tryz.func127 (by decide) rfl
theorem cf128 : CF Pg 128 := cf_of Tryz.func128 (by decide) rfl
theorem cf129 : CF Pg 129 := cf_of Tryz.func129 (by decide) rfl
theorem cf130 : CF Pg 130 := cf_of Tryz.func130 (by decide) rfl
theorem cf131 : CF Pg 131 := cf_of Tryz.func131 (by decide) rfl
theorem cf132 : CF Pg 132 := cf_of Tryz.func132 (by decide) rfl
theorem cf133 : CF Pg 133 := cf_of Tryz.func133 (by decide) rfl
theorem cf134 : CF Pg 134 := cf_of Tryz.func134 (by decide) rfl
theorem cf135 : CF Pg 135 := cf_of Tryz.func135 (by decide) rfl
theorem cf136 : CF Pg 136 := cf_of Tryz.func136 (by decide) rfl
theorem cf137 : CF Pg 137 := cf_of Tryz.func137 (by decide) rfl
theorem cf138 : CF Pg 138 := cf_of Tryz.func138 (by decide) rfl
theorem cf139 : CF Pg 139 := cf_of Tryz.func139 (by decide) rfl
theorem cf140 : CF Pg 140 := cf_of Tryz.func140 (by decide) rfl
theorem cf141 : CF Pg 141 := cf_of Tryz.func141 (by decide) rfl
theorem cf142 : CF Pg 142 := cf_of Tryz.func142 (by decide) rfl
theorem cf144 : CF Pg 144 := cf_of Tryz.func144 (by decide) rfl
theorem cf145 : CF Pg 145 := cf_of Tryz.func145 (by decide) rfl
theorem cf146 : CF Pg 146 := cf_of Tryz.func146 (by decide) rfl
theorem cf147 : CF Pg 147 := cf_of Tryz.func147 (by decide) rfl
theorem cf148 : CF Pg 148 := cf_of Tryz.func148 (by decide) rfl
theorem cf149 : CF Pg 149 := cf_of Tryz.func149 (by decide) rfl
theorem cf150 : CF Pg 150 := cf_of Tryz.func150 (by decide) rfl
theorem cf151 : CF Pg 151 := cf_of Tryz.func151 (by decide) rfl
theorem cf152 : CF Pg 152 := cf_of Tryz.func152 (by decide) rfl
theorem cf153 : CF Pg 153 := cf_of Tryz.func153 (by decide) rfl
theorem cf154 : CF Pg 154 := cf_of Tryz.func154 (by decide) rfl
theorem cf155 : CF Pg 155 := cf_of Tryz.func155 (by decide) rfl
theorem cf156 : CF Pg 156 := cf_of Tryz.func156 (by decide) rfl
theorem cf157 : CF Pg 157 := cf_of Tryz.func157 (by decide) rfl
theorem cf158 : CF Pg 158 := cf_of Tryz.func158 (by decide) rfl
theorem cf159 : CF Pg 159 := cf_of Tryz.func159 (by decide) rfl
theorem cf160 : CF Pg 160 := cf_of Tryz.func160 (by decide) rfl
theorem cf161 : CF Pg 161 := cf_of Tryz.func161 (by decide) rfl
theorem cf162 : CF Pg 162 := cf_of Tryz.func162 (by decide) rfl
theorem cf163 : CF Pg 163 := cf_of Tryz.func163 (by decide) rfl
theorem cf164 : CF Pg 164 := cf_of Tryz.func164 (by decide) rfl
theorem cf165 : CF Pg 165 := cf_of Tryz.func165 (by decide) rfl
theorem cf166 : CF Pg 166 := cf_of Tryz.func166 (by decide) rfl
theorem cf167 : CF Pg 167 := cf_of Tryz.func167 (by decide) rfl
theorem cf168 : CF Pg 168 := cf_of Tryz.func168 (by decide) rfl
theorem cf169 : CF Pg 169 := cf_of Tryz.func169 (by decide) rfl
theorem cf170 : CF Pg 170 := cf_of Tryz.func170 (by decide) rfl
theorem cf171 : CF Pg 171 := cf_of Tryz.func171 (by decide) rfl
theorem cf172 : CF Pg 172 := cf_of Tryz.func172 (by decide) rfl
theorem cf173 : CF Pg 173 := cf_of Tryz.func173 (by decide) rfl
theorem cf174 : CF Pg 174 := cf_of Tryz.func174 (by decide) rfl
theorem cf175 : CF Pg 175 := cf_of Tryz.func175 (by decide) rfl
theorem cf176 : CF Pg 176 := cf_of Tryz.func176 (by decide) rfl
theorem cf177 : CF Pg 177 := cf_of Tryz.func177 (by decide) rfl
theorem cf178 : CF Pg 178 := cf_of Tryz.func178 (by decide) rfl
theorem cf179 : CF Pg 179 := cf_of Tryz.func179 (by decide) rfl
theorem cf180 : CF Pg 180 := cf_of Tryz.func180 (by decide) rfl
theorem cf181 : CF Pg 181 := cf_of Tryz.func181 (by decide) rfl
theorem cf182 : CF Pg 182 := cf_of Tryz.func182 (by decide) rfl
theorem cf183 : CF Pg 183 := cf_of Tryz.func183 (by decide) rfl
theorem cf184 : CF Pg 184 := cf_of Tryz.func184 (by decide) rfl
theorem cf185 : CF Pg 185 := cf_of Tryz.func185 (by decide) rfl
theorem cf186 : CF Pg 186 := cf_of Tryz.func186 (by decide) rfl
theorem cf187 : CF Pg 187 := cf_of Tryz.func187 (by decide) rfl
theorem cf188 : CF Pg 188 := cf_of Tryz.func188 (by decide) rfl
theorem cf189 : CF Pg 189 := cf_of Tryz.func189 (by decide) rfl
theorem cf191 : CF Pg 191 := cf_of Tryz.func191 (by decide) rfl
theorem cf192 : CF Pg 192 := cf_of Tryz.func192 (by decide) rfl
theorem cf193 : CF Pg 193 := cf_of Tryz.func193 (by decide) rfl
theorem cf194 : CF Pg 194 := cf_of Tryz.func194 (by decide) rfl
theorem cf195 : CF Pg 195 := cf_of Tryz.func195 (by decide) rfl
theorem cf196 : CF Pg 196 := cf_of Tryz.func196 (by decide) rfl
theorem cf197 : CF Pg 197 := cf_of Tryz.func197 (by decide) rfl
theorem cf199 : CF Pg 199 := cf_of Tryz.func199 (by decide) rfl
theorem cf200 : CF Pg 200 := cf_of Tryz.func200 (by decide) rfl
theorem cf201 : CF Pg 201 := cf_of Tryz.func201 (by decide) rfl
theorem cf202 : CF Pg 202 := cf_of Tryz.func202 (by decide) rfl
theorem cf203 : CF Pg 203 := cf_of Tryz.func203 (by decide) rfl
theorem cf204 : CF Pg 204 := cf_of Tryz.func204 (by decide) rfl
theorem cf205 : CF Pg 205 := cf_of Tryz.func205 (by decide) rfl
theorem cf206 : CF Pg 206 := cf_of Tryz.func206 (by decide) rfl
theorem cf207 : CF Pg 207 := cf_of Tryz.func207 (by decide) rfl
theorem cf208 : CF Pg 208 := cf_of Tryz.func208 (by decide) rfl
theorem cf209 : CF Pg 209 := cf_of Tryz.func209 (by decide) rfl
theorem cf210 : CF Pg 210 := cf_of Tryz.func210 (by decide) rfl
theorem cf211 : CF Pg 211 := cf_of Tryz.func211 (by decide) rfl
theorem cf212 : CF Pg 212 := cf_of Tryz.func212 (by decide) rfl
theorem cf213 : CF Pg 213 := cf_of Tryz.func213 (by decide) rfl
theorem cf214 : CF Pg 214 := cf_of Tryz.func214 (by decide) rfl
theorem cf215 : CF Pg 215 := cf_of Tryz.func215 (by decide) rfl
theorem cf216 : CF Pg 216 := cf_of Tryz.func216 (by decide) rfl
theorem cf217 : CF Pg 217 := cf_of Tryz.func217 (by decide) rfl
theorem cf218 : CF Pg 218 := cf_of Tryz.func218 (by decide) rfl
theorem cf219 : CF Pg 219 := cf_of Tryz.func219 (by decide) rfl
theorem cf220 : CF Pg 220 := cf_of Tryz.func220 (by decide) rfl
theorem cf221 : CF Pg 221 := cf_of Tryz.func221 (by decide) rfl
theorem cf222 : CF Pg 222 := cf_of Tryz.func222 (by decide) rfl
theorem cf223 : CF Pg 223 := cf_of Tryz.func223 (by decide) rfl
theorem cf224 : CF Pg 224 := cf_of Tryz.func224 (by decide) rfl
theorem cf225 : CF Pg 225 := cf_of Tryz.func225 (by decide) rfl
theorem cf226 : CF Pg 226 := cf_of Tryz.func226 (by decide) rfl
theorem cf227 : CF Pg 227 := cf_of Tryz.func227 (by decide) rfl
theorem cf228 : CF Pg 228 := cf_of Tryz.func228 (by decide) rfl
theorem cf229 : CF Pg 229 := cf_of Tryz.func229 (by decide) rfl
theorem cf230 : CF Pg 230 := cf_of Tryz.func230 (by decide) rfl
theorem cf231 : CF Pg 231 := cf_of Tryz.func231 (by decide) rfl
theorem cf232 : CF Pg 232 := cf_of Tryz.func232 (by decide) rfl
theorem cf234 : CF Pg 234 := cf_of Tryz.func234 (by decide) rfl
theorem cf235 : CF Pg 235 := cf_of Tryz.func235 (by decide) rfl
theorem cf236 : CF Pg 236 := cf_of Tryz.func236 (by decide) rfl
theorem cf237 : CF Pg 237 := cf_of Tryz.func237 (by decide) rfl
end Go.Proofs.YtmkijgmfefkgeaaGreatDoor
