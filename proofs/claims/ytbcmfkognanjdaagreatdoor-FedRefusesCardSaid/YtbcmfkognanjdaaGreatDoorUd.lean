/- FedRefuses: its function answers yes. No conditions. -/
import Derived.Test.YtbcmfkognanjdaaGreatDoorUd1
import Derived.Test.YtbcmfkognanjdaaGreatDoorUd2
import Derived.Test.YtbcmfkognanjdaaGreatDoorUd3
import Derived.Test.YtbcmfkognanjdaaGreatDoorUd4
import Derived.Test.YtbcmfkognanjdaaGreatDoorUd5
import Derived.Test.YtbcmfkognanjdaaGreatDoorUd6
namespace Go.Proofs.YtbcmfkognanjdaaGreatDoor
open Go Go.W Go.Proofs
set_option maxRecDepth 100000
theorem fu_yes1 (a b : Int) (h : wi a 9 = 1) : ∃ l, fuYesF l (vi a) (vi b) := by
  have h2 := wi_of b (n := 100) (by omega) (by omega)
  have c2 : wi b 100 = 0 ∨ wi b 100 = 1 ∨ wi b 100 = 2 ∨ wi b 100 = 3 ∨ wi b 100 = 4 ∨ wi b 100 = 5 ∨ wi b 100 = 6 ∨ wi b 100 = 7 ∨ wi b 100 = 8 ∨ wi b 100 = 9 ∨ wi b 100 = 10 ∨ wi b 100 = 11 ∨ wi b 100 = 12 ∨ wi b 100 = 13 ∨ wi b 100 = 14 ∨ wi b 100 = 15 ∨ wi b 100 = 16 ∨ wi b 100 = 17 ∨ wi b 100 = 18 ∨ wi b 100 = 19 ∨ wi b 100 = 20 ∨ wi b 100 = 21 ∨ wi b 100 = 22 ∨ wi b 100 = 23 ∨ wi b 100 = 24 ∨ wi b 100 = 25 ∨ wi b 100 = 26 ∨ wi b 100 = 27 ∨ wi b 100 = 28 ∨ wi b 100 = 29 ∨ wi b 100 = 30 ∨ wi b 100 = 31 ∨ wi b 100 = 32 ∨ wi b 100 = 33 ∨ wi b 100 = 34 ∨ wi b 100 = 35 ∨ wi b 100 = 36 ∨ wi b 100 = 37 ∨ wi b 100 = 38 ∨ wi b 100 = 39 ∨ wi b 100 = 40 ∨ wi b 100 = 41 ∨ wi b 100 = 42 ∨ wi b 100 = 43 ∨ wi b 100 = 44 ∨ wi b 100 = 45 ∨ wi b 100 = 46 ∨ wi b 100 = 47 ∨ wi b 100 = 48 ∨ wi b 100 = 49 ∨ wi b 100 = 50 ∨ wi b 100 = 51 ∨ wi b 100 = 52 ∨ wi b 100 = 53 ∨ wi b 100 = 54 ∨ wi b 100 = 55 ∨ wi b 100 = 56 ∨ wi b 100 = 57 ∨ wi b 100 = 58 ∨ wi b 100 = 59 ∨ wi b 100 = 60 ∨ wi b 100 = 61 ∨ wi b 100 = 62 ∨ wi b 100 = 63 ∨ wi b 100 = 64 ∨ wi b 100 = 65 ∨ wi b 100 = 66 ∨ wi b 100 = 67 ∨ wi b 100 = 68 ∨ wi b 100 = 69 ∨ wi b 100 = 70 ∨ wi b 100 = 71 ∨ wi b 100 = 72 ∨ wi b 100 = 73 ∨ wi b 100 = 74 ∨ wi b 100 = 75 ∨ wi b 100 = 76 ∨ wi b 100 = 77 ∨ wi b 100 = 78 ∨ wi b 100 = 79 ∨ wi b 100 = 80 ∨ wi b 100 = 81 ∨ wi b 100 = 82 ∨ wi b 100 = 83 ∨ wi b 100 = 84 ∨ wi b 100 = 85 ∨ wi b 100 = 86 ∨ wi b 100 = 87 ∨ wi b 100 = 88 ∨ wi b 100 = 89 ∨ wi b 100 = 90 ∨ wi b 100 = 91 ∨ wi b 100 = 92 ∨ wi b 100 = 93 ∨ wi b 100 = 94 ∨ wi b 100 = 95 ∨ wi b 100 = 96 ∨ wi b 100 = 97 ∨ wi b 100 = 98 ∨ wi b 100 = 99 := by omega
  rcases c2 with c2 | c2 | c2 | c2 | c2 | c2 | c2 | c2 | c2 | c2 | c2 | c2 | c2 | c2 | c2 | c2 | c2 | c2 | c2 | c2 | c2 | c2 | c2 | c2 | c2 | c2 | c2 | c2 | c2 | c2 | c2 | c2 | c2 | c2 | c2 | c2 | c2 | c2 | c2 | c2 | c2 | c2 | c2 | c2 | c2 | c2 | c2 | c2 | c2 | c2 | c2 | c2 | c2 | c2 | c2 | c2 | c2 | c2 | c2 | c2 | c2 | c2 | c2 | c2 | c2 | c2 | c2 | c2 | c2 | c2 | c2 | c2 | c2 | c2 | c2 | c2 | c2 | c2 | c2 | c2 | c2 | c2 | c2 | c2 | c2 | c2 | c2 | c2 | c2 | c2 | c2 | c2 | c2 | c2 | c2 | c2 | c2 | c2 | c2 | c2
  · exact ⟨_, fuy1_0 h c2⟩
  · exact ⟨_, fuy1_1 h c2⟩
  · exact ⟨_, fuy1_2 h c2⟩
  · exact ⟨_, fuy1_3 h c2⟩
  · exact ⟨_, fuy1_4 h c2⟩
  · exact ⟨_, fuy1_5 h c2⟩
  · exact ⟨_, fuy1_6 h c2⟩
  · exact ⟨_, fuy1_7 h c2⟩
  · exact ⟨_, fuy1_8 h c2⟩
  · exact ⟨_, fuy1_9 h c2⟩
  · exact ⟨_, fuy1_10 h c2⟩
  · exact ⟨_, fuy1_11 h c2⟩
  · exact ⟨_, fuy1_12 h c2⟩
  · exact ⟨_, fuy1_13 h c2⟩
  · exact ⟨_, fuy1_14 h c2⟩
  · exact ⟨_, fuy1_15 h c2⟩
  · exact ⟨_, fuy1_16 h c2⟩
  · exact ⟨_, fuy1_17 h c2⟩
  · exact ⟨_, fuy1_18 h c2⟩
  · exact ⟨_, fuy1_19 h c2⟩
  · exact ⟨_, fuy1_20 h c2⟩
  · exact ⟨_, fuy1_21 h c2⟩
  · exact ⟨_, fuy1_22 h c2⟩
  · exact ⟨_, fuy1_23 h c2⟩
  · exact ⟨_, fuy1_24 h c2⟩
  · exact ⟨_, fuy1_25 h c2⟩
  · exact ⟨_, fuy1_26 h c2⟩
  · exact ⟨_, fuy1_27 h c2⟩
  · exact ⟨_, fuy1_28 h c2⟩
  · exact ⟨_, fuy1_29 h c2⟩
  · exact ⟨_, fuy1_30 h c2⟩
  · exact ⟨_, fuy1_31 h c2⟩
  · exact ⟨_, fuy1_32 h c2⟩
  · exact ⟨_, fuy1_33 h c2⟩
  · exact ⟨_, fuy1_34 h c2⟩
  · exact ⟨_, fuy1_35 h c2⟩
  · exact ⟨_, fuy1_36 h c2⟩
  · exact ⟨_, fuy1_37 h c2⟩
  · exact ⟨_, fuy1_38 h c2⟩
  · exact ⟨_, fuy1_39 h c2⟩
  · exact ⟨_, fuy1_40 h c2⟩
  · exact ⟨_, fuy1_41 h c2⟩
  · exact ⟨_, fuy1_42 h c2⟩
  · exact ⟨_, fuy1_43 h c2⟩
  · exact ⟨_, fuy1_44 h c2⟩
  · exact ⟨_, fuy1_45 h c2⟩
  · exact ⟨_, fuy1_46 h c2⟩
  · exact ⟨_, fuy1_47 h c2⟩
  · exact ⟨_, fuy1_48 h c2⟩
  · exact ⟨_, fuy1_49 h c2⟩
  · exact ⟨_, fuy1_50 h c2⟩
  · exact ⟨_, fuy1_51 h c2⟩
  · exact ⟨_, fuy1_52 h c2⟩
  · exact ⟨_, fuy1_53 h c2⟩
  · exact ⟨_, fuy1_54 h c2⟩
  · exact ⟨_, fuy1_55 h c2⟩
  · exact ⟨_, fuy1_56 h c2⟩
  · exact ⟨_, fuy1_57 h c2⟩
  · exact ⟨_, fuy1_58 h c2⟩
  · exact ⟨_, fuy1_59 h c2⟩
  · exact ⟨_, fuy1_60 h c2⟩
  · exact ⟨_, fuy1_61 h c2⟩
  · exact ⟨_, fuy1_62 h c2⟩
  · exact ⟨_, fuy1_63 h c2⟩
  · exact ⟨_, fuy1_64 h c2⟩
  · exact ⟨_, fuy1_65 h c2⟩
  · exact ⟨_, fuy1_66 h c2⟩
  · exact ⟨_, fuy1_67 h c2⟩
  · exact ⟨_, fuy1_68 h c2⟩
  · exact ⟨_, fuy1_69 h c2⟩
  · exact ⟨_, fuy1_70 h c2⟩
  · exact ⟨_, fuy1_71 h c2⟩
  · exact ⟨_, fuy1_72 h c2⟩
  · exact ⟨_, fuy1_73 h c2⟩
  · exact ⟨_, fuy1_74 h c2⟩
  · exact ⟨_, fuy1_75 h c2⟩
  · exact ⟨_, fuy1_76 h c2⟩
  · exact ⟨_, fuy1_77 h c2⟩
  · exact ⟨_, fuy1_78 h c2⟩
  · exact ⟨_, fuy1_79 h c2⟩
  · exact ⟨_, fuy1_80 h c2⟩
  · exact ⟨_, fuy1_81 h c2⟩
  · exact ⟨_, fuy1_82 h c2⟩
  · exact ⟨_, fuy1_83 h c2⟩
  · exact ⟨_, fuy1_84 h c2⟩
  · exact ⟨_, fuy1_85 h c2⟩
  · exact ⟨_, fuy1_86 h c2⟩
  · exact ⟨_, fuy1_87 h c2⟩
  · exact ⟨_, fuy1_88 h c2⟩
  · exact ⟨_, fuy1_89 h c2⟩
  · exact ⟨_, fuy1_90 h c2⟩
  · exact ⟨_, fuy1_91 h c2⟩
  · exact ⟨_, fuy1_92 h c2⟩
  · exact ⟨_, fuy1_93 h c2⟩
  · exact ⟨_, fuy1_94 h c2⟩
  · exact ⟨_, fuy1_95 h c2⟩
  · exact ⟨_, fuy1_96 h c2⟩
  · exact ⟨_, fuy1_97 h c2⟩
  · exact ⟨_, fuy1_98 h c2⟩
  · exact ⟨_, fuy1_99 h c2⟩
theorem fu_yes2 (a b : Int) (h : wi a 9 = 2) : ∃ l, fuYesF l (vi a) (vi b) := by
  have h2 := wi_of b (n := 100) (by omega) (by omega)
  have c2 : wi b 100 = 0 ∨ wi b 100 = 1 ∨ wi b 100 = 2 ∨ wi b 100 = 3 ∨ wi b 100 = 4 ∨ wi b 100 = 5 ∨ wi b 100 = 6 ∨ wi b 100 = 7 ∨ wi b 100 = 8 ∨ wi b 100 = 9 ∨ wi b 100 = 10 ∨ wi b 100 = 11 ∨ wi b 100 = 12 ∨ wi b 100 = 13 ∨ wi b 100 = 14 ∨ wi b 100 = 15 ∨ wi b 100 = 16 ∨ wi b 100 = 17 ∨ wi b 100 = 18 ∨ wi b 100 = 19 ∨ wi b 100 = 20 ∨ wi b 100 = 21 ∨ wi b 100 = 22 ∨ wi b 100 = 23 ∨ wi b 100 = 24 ∨ wi b 100 = 25 ∨ wi b 100 = 26 ∨ wi b 100 = 27 ∨ wi b 100 = 28 ∨ wi b 100 = 29 ∨ wi b 100 = 30 ∨ wi b 100 = 31 ∨ wi b 100 = 32 ∨ wi b 100 = 33 ∨ wi b 100 = 34 ∨ wi b 100 = 35 ∨ wi b 100 = 36 ∨ wi b 100 = 37 ∨ wi b 100 = 38 ∨ wi b 100 = 39 ∨ wi b 100 = 40 ∨ wi b 100 = 41 ∨ wi b 100 = 42 ∨ wi b 100 = 43 ∨ wi b 100 = 44 ∨ wi b 100 = 45 ∨ wi b 100 = 46 ∨ wi b 100 = 47 ∨ wi b 100 = 48 ∨ wi b 100 = 49 ∨ wi b 100 = 50 ∨ wi b 100 = 51 ∨ wi b 100 = 52 ∨ wi b 100 = 53 ∨ wi b 100 = 54 ∨ wi b 100 = 55 ∨ wi b 100 = 56 ∨ wi b 100 = 57 ∨ wi b 100 = 58 ∨ wi b 100 = 59 ∨ wi b 100 = 60 ∨ wi b 100 = 61 ∨ wi b 100 = 62 ∨ wi b 100 = 63 ∨ wi b 100 = 64 ∨ wi b 100 = 65 ∨ wi b 100 = 66 ∨ wi b 100 = 67 ∨ wi b 100 = 68 ∨ wi b 100 = 69 ∨ wi b 100 = 70 ∨ wi b 100 = 71 ∨ wi b 100 = 72 ∨ wi b 100 = 73 ∨ wi b 100 = 74 ∨ wi b 100 = 75 ∨ wi b 100 = 76 ∨ wi b 100 = 77 ∨ wi b 100 = 78 ∨ wi b 100 = 79 ∨ wi b 100 = 80 ∨ wi b 100 = 81 ∨ wi b 100 = 82 ∨ wi b 100 = 83 ∨ wi b 100 = 84 ∨ wi b 100 = 85 ∨ wi b 100 = 86 ∨ wi b 100 = 87 ∨ wi b 100 = 88 ∨ wi b 100 = 89 ∨ wi b 100 = 90 ∨ wi b 100 = 91 ∨ wi b 100 = 92 ∨ wi b 100 = 93 ∨ wi b 100 = 94 ∨ wi b 100 = 95 ∨ wi b 100 = 96 ∨ wi b 100 = 97 ∨ wi b 100 = 98 ∨ wi b 100 = 99 := by omega
  rcases c2 with c2 | c2 | c2 | c2 | c2 | c2 | c2 | c2 | c2 | c2 | c2 | c2 | c2 | c2 | c2 | c2 | c2 | c2 | c2 | c2 | c2 | c2 | c2 | c2 | c2 | c2 | c2 | c2 | c2 | c2 | c2 | c2 | c2 | c2 | c2 | c2 | c2 | c2 | c2 | c2 | c2 | c2 | c2 | c2 | c2 | c2 | c2 | c2 | c2 | c2 | c2 | c2 | c2 | c2 | c2 | c2 | c2 | c2 | c2 | c2 | c2 | c2 | c2 | c2 | c2 | c2 | c2 | c2 | c2 | c2 | c2 | c2 | c2 | c2 | c2 | c2 | c2 | c2 | c2 | c2 | c2 | c2 | c2 | c2 | c2 | c2 | c2 | c2 | c2 | c2 | c2 | c2 | c2 | c2 | c2 | c2 | c2 | c2 | c2 | c2
  · exact ⟨_, fuy2_0 h c2⟩
  · exact ⟨_, fuy2_1 h c2⟩
  · exact ⟨_, fuy2_2 h c2⟩
  · exact ⟨_, fuy2_3 h c2⟩
  · exact ⟨_, fuy2_4 h c2⟩
  · exact ⟨_, fuy2_5 h c2⟩
  · exact ⟨_, fuy2_6 h c2⟩
  · exact ⟨_, fuy2_7 h c2⟩
  · exact ⟨_, fuy2_8 h c2⟩
  · exact ⟨_, fuy2_9 h c2⟩
  · exact ⟨_, fuy2_10 h c2⟩
  · exact ⟨_, fuy2_11 h c2⟩
  · exact ⟨_, fuy2_12 h c2⟩
  · exact ⟨_, fuy2_13 h c2⟩
  · exact ⟨_, fuy2_14 h c2⟩
  · exact ⟨_, fuy2_15 h c2⟩
  · exact ⟨_, fuy2_16 h c2⟩
  · exact ⟨_, fuy2_17 h c2⟩
  · exact ⟨_, fuy2_18 h c2⟩
  · exact ⟨_, fuy2_19 h c2⟩
  · exact ⟨_, fuy2_20 h c2⟩
  · exact ⟨_, fuy2_21 h c2⟩
  · exact ⟨_, fuy2_22 h c2⟩
  · exact ⟨_, fuy2_23 h c2⟩
  · exact ⟨_, fuy2_24 h c2⟩
  · exact ⟨_, fuy2_25 h c2⟩
  · exact ⟨_, fuy2_26 h c2⟩
  · exact ⟨_, fuy2_27 h c2⟩
  · exact ⟨_, fuy2_28 h c2⟩
  · exact ⟨_, fuy2_29 h c2⟩
  · exact ⟨_, fuy2_30 h c2⟩
  · exact ⟨_, fuy2_31 h c2⟩
  · exact ⟨_, fuy2_32 h c2⟩
  · exact ⟨_, fuy2_33 h c2⟩
  · exact ⟨_, fuy2_34 h c2⟩
  · exact ⟨_, fuy2_35 h c2⟩
  · exact ⟨_, fuy2_36 h c2⟩
  · exact ⟨_, fuy2_37 h c2⟩
  · exact ⟨_, fuy2_38 h c2⟩
  · exact ⟨_, fuy2_39 h c2⟩
  · exact ⟨_, fuy2_40 h c2⟩
  · exact ⟨_, fuy2_41 h c2⟩
  · exact ⟨_, fuy2_42 h c2⟩
  · exact ⟨_, fuy2_43 h c2⟩
  · exact ⟨_, fuy2_44 h c2⟩
  · exact ⟨_, fuy2_45 h c2⟩
  · exact ⟨_, fuy2_46 h c2⟩
  · exact ⟨_, fuy2_47 h c2⟩
  · exact ⟨_, fuy2_48 h c2⟩
  · exact ⟨_, fuy2_49 h c2⟩
  · exact ⟨_, fuy2_50 h c2⟩
  · exact ⟨_, fuy2_51 h c2⟩
  · exact ⟨_, fuy2_52 h c2⟩
  · exact ⟨_, fuy2_53 h c2⟩
  · exact ⟨_, fuy2_54 h c2⟩
  · exact ⟨_, fuy2_55 h c2⟩
  · exact ⟨_, fuy2_56 h c2⟩
  · exact ⟨_, fuy2_57 h c2⟩
  · exact ⟨_, fuy2_58 h c2⟩
  · exact ⟨_, fuy2_59 h c2⟩
  · exact ⟨_, fuy2_60 h c2⟩
  · exact ⟨_, fuy2_61 h c2⟩
  · exact ⟨_, fuy2_62 h c2⟩
  · exact ⟨_, fuy2_63 h c2⟩
  · exact ⟨_, fuy2_64 h c2⟩
  · exact ⟨_, fuy2_65 h c2⟩
  · exact ⟨_, fuy2_66 h c2⟩
  · exact ⟨_, fuy2_67 h c2⟩
  · exact ⟨_, fuy2_68 h c2⟩
  · exact ⟨_, fuy2_69 h c2⟩
  · exact ⟨_, fuy2_70 h c2⟩
  · exact ⟨_, fuy2_71 h c2⟩
  · exact ⟨_, fuy2_72 h c2⟩
  · exact ⟨_, fuy2_73 h c2⟩
  · exact ⟨_, fuy2_74 h c2⟩
  · exact ⟨_, fuy2_75 h c2⟩
  · exact ⟨_, fuy2_76 h c2⟩
  · exact ⟨_, fuy2_77 h c2⟩
  · exact ⟨_, fuy2_78 h c2⟩
  · exact ⟨_, fuy2_79 h c2⟩
  · exact ⟨_, fuy2_80 h c2⟩
  · exact ⟨_, fuy2_81 h c2⟩
  · exact ⟨_, fuy2_82 h c2⟩
  · exact ⟨_, fuy2_83 h c2⟩
  · exact ⟨_, fuy2_84 h c2⟩
  · exact ⟨_, fuy2_85 h c2⟩
  · exact ⟨_, fuy2_86 h c2⟩
  · exact ⟨_, fuy2_87 h c2⟩
  · exact ⟨_, fuy2_88 h c2⟩
  · exact ⟨_, fuy2_89 h c2⟩
  · exact ⟨_, fuy2_90 h c2⟩
  · exact ⟨_, fuy2_91 h c2⟩
  · exact ⟨_, fuy2_92 h c2⟩
  · exact ⟨_, fuy2_93 h c2⟩
  · exact ⟨_, fuy2_94 h c2⟩
  · exact ⟨_, fuy2_95 h c2⟩
  · exact ⟨_, fuy2_96 h c2⟩
  · exact ⟨_, fuy2_97 h c2⟩
  · exact ⟨_, fuy2_98 h c2⟩
  · exact ⟨_, fuy2_99 h c2⟩
theorem fu_yes6 (a b : Int) (h : wi a 9 = 6) : ∃ l, fuYesF l (vi a) (vi b) := by
  have h2 := wi_of b (n := 5) (by omega) (by omega)
  have c2 : wi b 5 = 0 ∨ wi b 5 = 1 ∨ wi b 5 = 2 ∨ wi b 5 = 3 ∨ wi b 5 = 4 := by omega
  rcases c2 with c2 | c2 | c2 | c2 | c2
  · exact ⟨_, fuy6_0 h c2⟩
  · exact ⟨_, fuy6_1 h c2⟩
  · exact ⟨_, fuy6_2 h c2⟩
  · exact ⟨_, fuy6_3 h c2⟩
  · exact ⟨_, fuy6_4 h c2⟩
theorem fu_yes7 (a b : Int) (h : wi a 9 = 7) : ∃ l, fuYesF l (vi a) (vi b) := by
  have h2 := wi_of b (n := 3) (by omega) (by omega)
  have c2 : wi b 3 = 0 ∨ wi b 3 = 1 ∨ wi b 3 = 2 := by omega
  rcases c2 with c2 | c2 | c2
  · exact ⟨_, fuy7_0 h c2⟩
  · exact ⟨_, fuy7_1 h c2⟩
  · exact ⟨_, fuy7_2 h c2⟩
theorem fu_yes8 (a b : Int) (h : wi a 9 = 8) : ∃ l, fuYesF l (vi a) (vi b) := by
  have h2 := wi_of b (n := 3) (by omega) (by omega)
  have c2 : wi b 3 = 0 ∨ wi b 3 = 1 ∨ wi b 3 = 2 := by omega
  rcases c2 with c2 | c2 | c2
  · exact ⟨_, fuy8_0 h c2⟩
  · exact ⟨_, fuy8_1 h c2⟩
  · exact ⟨_, fuy8_2 h c2⟩
theorem fu_yes (a b : Int) : ∃ l, fuYesF l (vi a) (vi b) := by
  have h1 := wi_of a (n := 9) (by omega) (by omega)
  have c1 : wi a 9 = 0 ∨ wi a 9 = 1 ∨ wi a 9 = 2 ∨ wi a 9 = 3 ∨ wi a 9 = 4 ∨ wi a 9 = 5 ∨ wi a 9 = 6 ∨ wi a 9 = 7 ∨ wi a 9 = 8 := by omega
  rcases c1 with c1 | c1 | c1 | c1 | c1 | c1 | c1 | c1 | c1
  · exact ⟨_, fuy0_0 c1⟩
  · exact fu_yes1 a b c1
  · exact fu_yes2 a b c1
  · exact ⟨_, fuy3_0 c1⟩
  · exact ⟨_, fuy4_0 c1⟩
  · exact ⟨_, fuy5_0 c1⟩
  · exact fu_yes6 a b c1
  · exact fu_yes7 a b c1
  · exact fu_yes8 a b c1
end Go.Proofs.YtbcmfkognanjdaaGreatDoor
