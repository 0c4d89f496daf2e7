/- The law's run, what the laid variables hold, and what the law's call does from every memory that the row lets in. -/
import Derived.Test.YtbkgehknhjkaoaaGreatDoorPipeG1
import Derived.Test.YtbkgehknhjkaoaaGreatDoorPipeG2
import Derived.Test.YtbkgehknhjkaoaaGreatDoorPipeG4
import Derived.Test.YtbkgehknhjkaoaaGreatDoorPipeG6
import Derived.Test.YtbkgehknhjkaoaaGreatDoorPipeG8
import Derived.Test.YtbkgehknhjkaoaaGreatDoorPipeG9
import Derived.Test.YtbkgehknhjkaoaaGreatDoorPipeG10
import Derived.Test.YtbkgehknhjkaoaaGreatDoorPipeG11
import Derived.Test.YtbkgehknhjkaoaaGreatDoorPipeG12
import Derived.Test.YtbkgehknhjkaoaaGreatDoorPipeG14
import Derived.Test.YtbkgehknhjkaoaaGreatDoorPipeG15
import Derived.Test.YtbkgehknhjkaoaaGreatDoorPipeG16
import Derived.Test.YtbkgehknhjkaoaaGreatDoorPipeG17
import Derived.Test.YtbkgehknhjkaoaaGreatDoorPipeG19
import Derived.Test.YtbkgehknhjkaoaaGreatDoorPipeG21
import Derived.Test.YtbkgehknhjkaoaaGreatDoorPipeG22
import Derived.Test.YtbkgehknhjkaoaaGreatDoorPipeG23
import Derived.Test.YtbkgehknhjkaoaaGreatDoorPipeG24
import Derived.Test.YtbkgehknhjkaoaaGreatDoorPipeG25
import Derived.Test.YtbkgehknhjkaoaaGreatDoorPipeG27
import Derived.Test.YtbkgehknhjkaoaaGreatDoorPipeG29
import Derived.Test.YtbkgehknhjkaoaaGreatDoorPipeG30
import Derived.Test.YtbkgehknhjkaoaaGreatDoorPipeG31
import Derived.Test.YtbkgehknhjkaoaaGreatDoorPipeG32
import Derived.Test.YtbkgehknhjkaoaaGreatDoorPipeG33
import Derived.Test.YtbkgehknhjkaoaaGreatDoorPipeG34
import Derived.Test.YtbkgehknhjkaoaaGreatDoorPipeG35
import Derived.Test.YtbkgehknhjkaoaaGreatDoorPipeG36
import Derived.Test.YtbkgehknhjkaoaaGreatDoorRows
import Derived.Test.YtbkgehknhjkaoaaGreatDoorPipeK0
import Derived.LaidMore
import Derived.MakeChecks
import Derived.Stop.Joined
import Derived.Stop.LaidErr
import Derived.Lib.LaidTab
import Derived.Lib.SmallJoins
import Derived.Deep.Strs
import Derived.WalkKit
import Derived.OpenShut
import Derived.ProofKit
namespace Go.Proofs.YtbkgehknhjkaoaaGreatDoor.Pipe
open Go Go.RowKit Go.Proofs.YtbkgehknhjkaoaaGreatDoor.Ev
theorem tab : Tab2Ok Tryz.prog [⟨f1, [], []⟩, ⟨f9, [204, 154, 201, 118, 145, 190, 70], []⟩, ⟨f13, [204, 154, 201, 118, 145, 190, 70], []⟩, ⟨f14, [204, 154, 201, 118, 145, 190, 70], []⟩, ⟨f7, [204, 154, 201, 118, 145, 190, 70], []⟩, ⟨f13, [2358, 2272, 2351, 2299, 2304, 2356, 2282], []⟩, ⟨f20, [2358, 2272, 2351, 2299, 2304, 2356, 2282], []⟩, ⟨f26, [4910, 3921, 4903, 4830, 4850, 4908, 4735, 4734, 4769], []⟩, ⟨f27, [204, 154, 201, 118, 145, 190, 70], []⟩, ⟨f14, [7936, 7886, 7933, 7850, 7877, 7922, 7802], []⟩, ⟨f28, [7936, 7886, 7933, 7850, 7877, 7922, 7802], []⟩, ⟨f13, [7936, 7886, 7933, 7850, 7877, 7922, 7802], []⟩, ⟨f9, [7936, 7886, 7933, 7850, 7877, 7922, 7802], []⟩, ⟨f7, [7936, 7886, 7933, 7850, 7877, 7922, 7802], []⟩, ⟨f13, [10407, 10321, 10400, 10348, 10353, 10405, 10331], []⟩, ⟨f29, [10407, 10321, 10400, 10348, 10353, 10405, 10331], []⟩, ⟨f43, [11741, 11822, 11734, 11780, 11687, 11814, 11820, 11739], []⟩, ⟨f46, [11741, 11822, 11734, 11780, 11687, 11814, 11820, 11739], []⟩, ⟨f43, [14438, 14326, 14431, 14341, 14346, 14356, 14371, 14436], []⟩, ⟨f50, [14438, 14326, 14431, 14341, 14346, 14356, 14371, 14436], []⟩, ⟨f60, [19205, 17414, 19198, 19016, 19130, 19054, 19110, 19203, 18959, 18958], []⟩, ⟨f67, [19205, 17414, 19198, 19016, 19130, 19054, 19110, 19203, 18959, 18958], []⟩, ⟨f71, [23224, 23156, 22378, 23180, 23185, 23195, 23210, 23144, 23161, 23163], []⟩, ⟨f74, [23224, 23156, 22378, 23180, 23185, 23195, 23210, 23144, 23161, 23163], []⟩, ⟨f84, [26241, 26111, 26234, 26135, 26140, 26150, 26165, 26239, 26116, 26118], []⟩, ⟨f88, [26241, 26111, 26234, 26135, 26140, 26150, 26165, 26239, 26116, 26118], []⟩, ⟨f84, [31841, 31711, 31834, 31735, 31740, 31750, 31765, 31839, 31716, 31718], []⟩, ⟨f91, [31841, 31711, 31834, 31735, 31740, 31750, 31765, 31839, 31716, 31718], []⟩, ⟨f101, [35227, 35097, 35220, 35121, 35126, 35136, 35151, 35225, 35102, 35104], []⟩, ⟨f105, [35227, 35097, 35220, 35121, 35126, 35136, 35151, 35225, 35102, 35104], []⟩, ⟨f101, [39889, 39759, 39882, 39783, 39788, 39798, 39813, 39887, 39764, 39766], []⟩, ⟨f108, [39889, 39759, 39882, 39783, 39788, 39798, 39813, 39887, 39764, 39766], []⟩, ⟨f118, [43518, 43388, 43511, 43412, 43417, 43427, 43442, 43516, 43393, 43395], []⟩, ⟨f122, [43518, 43388, 43511, 43412, 43417, 43427, 43442, 43516, 43393, 43395], []⟩, ⟨f132, [48848, 48718, 48841, 48742, 48747, 48757, 48772, 48846, 48723, 48725], []⟩, ⟨f139, [48848, 48718, 48841, 48742, 48747, 48757, 48772, 48846, 48723, 48725], []⟩, ⟨f147, [52438, 52308, 52431, 55250, 52332, 52337, 52347, 52362, 52436, 52313, 52315], []⟩, ⟨f153, [52438, 52308, 52431, 55250, 52332, 52337, 52347, 52362, 52436, 52313, 52315], []⟩, ⟨f156, [59051, 58921, 59044, 58931, 58945, 58950, 58960, 58975, 59049, 58936, 58938], []⟩, ⟨f159, [59051, 58921, 59044, 58931, 58945, 58950, 58960, 58975, 59049, 58936, 58938], []⟩, ⟨f156, [62890, 62760, 62883, 62770, 62784, 62789, 62799, 62814, 62888, 62775, 62777], []⟩, ⟨f161, [62890, 62760, 62883, 62770, 62784, 62789, 62799, 62814, 62888, 62775, 62777], []⟩, ⟨f156, [68289, 68159, 68282, 68169, 68183, 68188, 68198, 68213, 68287, 68174, 68176], []⟩, ⟨f162, [68289, 68159, 68282, 68169, 68183, 68188, 68198, 68213, 68287, 68174, 68176], []⟩, ⟨f172, [71652, 71522, 71645, 71532, 71546, 71551, 71561, 71576, 71650, 71537, 71539], []⟩, ⟨f176, [71652, 71522, 71645, 71532, 71546, 71551, 71561, 71576, 71650, 71537, 71539], []⟩, ⟨f186, [76246, 76116, 76239, 76126, 76140, 76145, 76155, 76170, 76244, 76131, 76133], []⟩, ⟨f189, [76246, 76116, 76239, 76126, 76140, 76145, 76155, 76170, 76244, 76131, 76133], []⟩, ⟨f186, [79893, 79763, 79886, 79773, 79787, 79792, 79802, 79817, 79891, 79778, 79780], []⟩, ⟨f193, [79893, 79763, 79886, 79773, 79787, 79792, 79802, 79817, 79891, 79778, 79780], []⟩, ⟨f186, [84518, 84388, 84511, 84398, 84412, 84417, 84427, 84442, 84516, 84403, 84405], []⟩, ⟨f196, [84518, 84388, 84511, 84398, 84412, 84417, 84427, 84442, 84516, 84403, 84405], []⟩, ⟨f204, [88087, 87957, 88080, 87967, 87981, 87986, 87996, 88011, 88085, 87972, 87974], []⟩, ⟨f212, [88087, 87957, 88080, 87967, 87981, 87986, 87996, 88011, 88085, 87972, 87974], []⟩, ⟨f223, [91599, 91519, 91592, 91528, 91533, 91548, 91597, 91524, 91526], []⟩, ⟨f225, [91599, 91519, 91592, 91528, 91533, 91548, 91597, 91524, 91526], []⟩, ⟨f236, [95158, 95086, 95156, 95083, 94741, 94746, 94761, 95100, 94737, 94739], [109]⟩, ⟨f241, [95158, 95086, 95156, 95083, 94741, 94746, 94761, 95100, 94737, 94739], [109]⟩, ⟨f244, [97796, 97757, 97500, 97762, 97767, 97782, 97787], []⟩, ⟨f243, [97796, 97757, 97500, 97762, 97767, 97782, 97787], []⟩, ⟨f248, [101650, 101519, 101648, 101493, 101508, 101518, 101513], []⟩, ⟨f254, [101650, 101519, 101648, 101493, 101508, 101518, 101513], []⟩, ⟨f255, [103399, 103360, 103346, 103365, 103380, 103385, 103390], []⟩] := fun x hx => by
  simp only [List.mem_cons, List.not_mem_nil, or_false] at hx
  rcases hx with rfl | rfl | rfl | rfl | rfl | rfl | rfl | rfl | rfl | rfl | rfl | rfl | rfl | rfl | rfl | rfl | rfl | rfl | rfl | rfl | rfl | rfl | rfl | rfl | rfl | rfl | rfl | rfl | rfl | rfl | rfl | rfl | rfl | rfl | rfl | rfl | rfl | rfl | rfl | rfl | rfl | rfl | rfl | rfl | rfl | rfl | rfl | rfl | rfl | rfl | rfl | rfl | rfl | rfl | rfl | rfl | rfl | rfl | rfl | rfl | rfl | rfl | rfl
  · exact ⟨r1, x1, by kernel_rfl⟩
  · exact ⟨r9, x9, by kernel_rfl⟩
  · exact ⟨r13, x13, by kernel_rfl⟩
  · exact ⟨r14, x14, by kernel_rfl⟩
  · exact ⟨r7, x7, by kernel_rfl⟩
  · exact ⟨r13, x13, by kernel_rfl⟩
  · exact ⟨r20, x20, by kernel_rfl⟩
  · exact ⟨r26, x26, by kernel_rfl⟩
  · exact ⟨r27, x27, by kernel_rfl⟩
  · exact ⟨r14, x14, by kernel_rfl⟩
  · exact ⟨r28, x28, by kernel_rfl⟩
  · exact ⟨r13, x13, by kernel_rfl⟩
  · exact ⟨r9, x9, by kernel_rfl⟩
  · exact ⟨r7, x7, by kernel_rfl⟩
  · exact ⟨r13, x13, by kernel_rfl⟩
  · exact ⟨r29, x29, by kernel_rfl⟩
  · exact ⟨r43, x43, by kernel_rfl⟩
  · exact ⟨r46, x46, by kernel_rfl⟩
  · exact ⟨r43, x43, by kernel_rfl⟩
  · exact ⟨r50, x50, by kernel_rfl⟩
  · exact ⟨r60, x60, by kernel_rfl⟩
  · exact ⟨r67, x67, by kernel_rfl⟩
  · exact ⟨r71, x71, by kernel_rfl⟩
  · exact ⟨r74, x74, by kernel_rfl⟩
  · exact ⟨r84, x84, by kernel_rfl⟩
  · exact ⟨r88, x88, by kernel_rfl⟩
  · exact ⟨r84, x84, by kernel_rfl⟩
  · exact ⟨r91, x91, by kernel_rfl⟩
  · exact ⟨r101, x101, by kernel_rfl⟩
  · exact ⟨r105, x105, by kernel_rfl⟩
  · exact ⟨r101, x101, by kernel_rfl⟩
  · exact ⟨r108, x108, by kernel_rfl⟩
  · exact ⟨r118, x118, by kernel_rfl⟩
  · exact ⟨r122, x122, by kernel_rfl⟩
  · exact ⟨r132, x132, by kernel_rfl⟩
  · exact ⟨r139, x139, by kernel_rfl⟩
  · exact ⟨r147, x147, by kernel_rfl⟩
  · exact ⟨r153, x153, by kernel_rfl⟩
  · exact ⟨r156, x156, by kernel_rfl⟩
  · exact ⟨r159, x159, by kernel_rfl⟩
  · exact ⟨r156, x156, by kernel_rfl⟩
  · exact ⟨r161, x161, by kernel_rfl⟩
  · exact ⟨r156, x156, by kernel_rfl⟩
  · exact ⟨r162, x162, by kernel_rfl⟩
  · exact ⟨r172, x172, by kernel_rfl⟩
  · exact ⟨r176, x176, by kernel_rfl⟩
  · exact ⟨r186, x186, by kernel_rfl⟩
  · exact ⟨r189, x189, by kernel_rfl⟩
  · exact ⟨r186, x186, by kernel_rfl⟩
  · exact ⟨r193, x193, by kernel_rfl⟩
  · exact ⟨r186, x186, by kernel_rfl⟩
  · exact ⟨r196, x196, by kernel_rfl⟩
  · exact ⟨r204, x204, by kernel_rfl⟩
  · exact ⟨r212, x212, by kernel_rfl⟩
  · exact ⟨r223, x223, by kernel_rfl⟩
  · exact ⟨r225, x225, by kernel_rfl⟩
  · exact ⟨r236, x236, by kernel_rfl⟩
  · exact ⟨r241, x241, by kernel_rfl⟩
  · exact ⟨r244, x244, by kernel_rfl⟩
  · exact ⟨r243, x243, by kernel_rfl⟩
  · exact ⟨r248, x248, by kernel_rfl⟩
  · exact ⟨r254, x254, by kernel_rfl⟩
  · exact ⟨r255, x255, by kernel_rfl⟩
set_option maxRecDepth 1000000 in
theorem run : evCallF Tryz.prog 417 100000 [] [⟨f1, [], []⟩, ⟨f9, [204, 154, 201, 118, 145, 190, 70], []⟩, ⟨f13, [204, 154, 201, 118, 145, 190, 70], []⟩, ⟨f14, [204, 154, 201, 118, 145, 190, 70], []⟩, ⟨f7, [204, 154, 201, 118, 145, 190, 70], []⟩, ⟨f13, [2358, 2272, 2351, 2299, 2304, 2356, 2282], []⟩, ⟨f20, [2358, 2272, 2351, 2299, 2304, 2356, 2282], []⟩, ⟨f26, [4910, 3921, 4903, 4830, 4850, 4908, 4735, 4734, 4769], []⟩, ⟨f27, [204, 154, 201, 118, 145, 190, 70], []⟩, ⟨f14, [7936, 7886, 7933, 7850, 7877, 7922, 7802], []⟩, ⟨f28, [7936, 7886, 7933, 7850, 7877, 7922, 7802], []⟩, ⟨f13, [7936, 7886, 7933, 7850, 7877, 7922, 7802], []⟩, ⟨f9, [7936, 7886, 7933, 7850, 7877, 7922, 7802], []⟩, ⟨f7, [7936, 7886, 7933, 7850, 7877, 7922, 7802], []⟩, ⟨f13, [10407, 10321, 10400, 10348, 10353, 10405, 10331], []⟩, ⟨f29, [10407, 10321, 10400, 10348, 10353, 10405, 10331], []⟩, ⟨f43, [11741, 11822, 11734, 11780, 11687, 11814, 11820, 11739], []⟩, ⟨f46, [11741, 11822, 11734, 11780, 11687, 11814, 11820, 11739], []⟩, ⟨f43, [14438, 14326, 14431, 14341, 14346, 14356, 14371, 14436], []⟩, ⟨f50, [14438, 14326, 14431, 14341, 14346, 14356, 14371, 14436], []⟩, ⟨f60, [19205, 17414, 19198, 19016, 19130, 19054, 19110, 19203, 18959, 18958], []⟩, ⟨f67, [19205, 17414, 19198, 19016, 19130, 19054, 19110, 19203, 18959, 18958], []⟩, ⟨f71, [23224, 23156, 22378, 23180, 23185, 23195, 23210, 23144, 23161, 23163], []⟩, ⟨f74, [23224, 23156, 22378, 23180, 23185, 23195, 23210, 23144, 23161, 23163], []⟩, ⟨f84, [26241, 26111, 26234, 26135, 26140, 26150, 26165, 26239, 26116, 26118], []⟩, ⟨f88, [26241, 26111, 26234, 26135, 26140, 26150, 26165, 26239, 26116, 26118], []⟩, ⟨f84, [31841, 31711, 31834, 31735, 31740, 31750, 31765, 31839, 31716, 31718], []⟩, ⟨f91, [31841, 31711, 31834, 31735, 31740, 31750, 31765, 31839, 31716, 31718], []⟩, ⟨f101, [35227, 35097, 35220, 35121, 35126, 35136, 35151, 35225, 35102, 35104], []⟩, ⟨f105, [35227, 35097, 35220, 35121, 35126, 35136, 35151, 35225, 35102, 35104], []⟩, ⟨f101, [39889, 39759, 39882, 39783, 39788, 39798, 39813, 39887, 39764, 39766], []⟩, ⟨f108, [39889, 39759, 39882, 39783, 39788, 39798, 39813, 39887, 39764, 39766], []⟩, ⟨f118, [43518, 43388, 43511, 43412, 43417, 43427, 43442, 43516, 43393, 43395], []⟩, ⟨f122, [43518, 43388, 43511, 43412, 43417, 43427, 43442, 43516, 43393, 43395], []⟩, ⟨f132, [48848, 48718, 48841, 48742, 48747, 48757, 48772, 48846, 48723, 48725], []⟩, ⟨f139, [48848, 48718, 48841, 48742, 48747, 48757, 48772, 48846, 48723, 48725], []⟩, ⟨f147, [52438, 52308, 52431, 55250, 52332, 52337, 52347, 52362, 52436, 52313, 52315], []⟩, ⟨f153, [52438, 52308, 52431, 55250, 52332, 52337, 52347, 52362, 52436, 52313, 52315], []⟩, ⟨f156, [59051, 58921, 59044, 58931, 58945, 58950, 58960, 58975, 59049, 58936, 58938], []⟩, ⟨f159, [59051, 58921, 59044, 58931, 58945, 58950, 58960, 58975, 59049, 58936, 58938], []⟩, ⟨f156, [62890, 62760, 62883, 62770, 62784, 62789, 62799, 62814, 62888, 62775, 62777], []⟩, ⟨f161, [62890, 62760, 62883, 62770, 62784, 62789, 62799, 62814, 62888, 62775, 62777], []⟩, ⟨f156, [68289, 68159, 68282, 68169, 68183, 68188, 68198, 68213, 68287, 68174, 68176], []⟩, ⟨f162, [68289, 68159, 68282, 68169, 68183, 68188, 68198, 68213, 68287, 68174, 68176], []⟩, ⟨f172, [71652, 71522, 71645, 71532, 71546, 71551, 71561, 71576, 71650, 71537, 71539], []⟩, ⟨f176, [71652, 71522, 71645, 71532, 71546, 71551, 71561, 71576, 71650, 71537, 71539], []⟩, ⟨f186, [76246, 76116, 76239, 76126, 76140, 76145, 76155, 76170, 76244, 76131, 76133], []⟩, ⟨f189, [76246, 76116, 76239, 76126, 76140, 76145, 76155, 76170, 76244, 76131, 76133], []⟩, ⟨f186, [79893, 79763, 79886, 79773, 79787, 79792, 79802, 79817, 79891, 79778, 79780], []⟩, ⟨f193, [79893, 79763, 79886, 79773, 79787, 79792, 79802, 79817, 79891, 79778, 79780], []⟩, ⟨f186, [84518, 84388, 84511, 84398, 84412, 84417, 84427, 84442, 84516, 84403, 84405], []⟩, ⟨f196, [84518, 84388, 84511, 84398, 84412, 84417, 84427, 84442, 84516, 84403, 84405], []⟩, ⟨f204, [88087, 87957, 88080, 87967, 87981, 87986, 87996, 88011, 88085, 87972, 87974], []⟩, ⟨f212, [88087, 87957, 88080, 87967, 87981, 87986, 87996, 88011, 88085, 87972, 87974], []⟩, ⟨f223, [91599, 91519, 91592, 91528, 91533, 91548, 91597, 91524, 91526], []⟩, ⟨f225, [91599, 91519, 91592, 91528, 91533, 91548, 91597, 91524, 91526], []⟩, ⟨f236, [95158, 95086, 95156, 95083, 94741, 94746, 94761, 95100, 94737, 94739], [109]⟩, ⟨f241, [95158, 95086, 95156, 95083, 94741, 94746, 94761, 95100, 94737, 94739], [109]⟩, ⟨f244, [97796, 97757, 97500, 97762, 97767, 97782, 97787], []⟩, ⟨f243, [97796, 97757, 97500, 97762, 97767, 97782, 97787], []⟩, ⟨f248, [101650, 101519, 101648, 101493, 101508, 101518, 101513], []⟩, ⟨f254, [101650, 101519, 101648, 101493, 101508, 101518, 101513], []⟩, ⟨f255, [103399, 103360, 103346, 103365, 103380, 103385, 103390], []⟩] 60 3 [] ⟨.e, 0, 0, 0⟩ (fun sv _ => isT sv) = true := by kernel_rfl
theorem known (w : World) (hG : GOk w) : Calls Tryz.prog 3 #[] w fun e w' => e = .returned (.bool true) ∧ Below w.heap.size w w' :=
  calls_of_evF none_ok tab mixed (fnsOk_of 417 fns) (l := []) rfl isT_flat run w hG
end Go.Proofs.YtbkgehknhjkaoaaGreatDoor.Pipe
namespace Go.Proofs.YtbkgehknhjkaoaaGreatDoor.Pipe
open Go Go.ChangeShapes Go.WideShapes Go.ChangeAt Go.RowKit Go.Proofs Go.Joins Go.Proofs.YtbkgehknhjkaoaaGreatDoor.Ev
def laid1 : List (String × DataW Unit) := Rows.pipelineKnownRow.laid
theorem plain1 : (laid1.all fun x => x.2.handleName?.isNone) = true := by kernel_rfl
theorem gok_of_laid {W : World} (h : laidMetH Tryz.prog laid1 W) : GOk W := by
  rw [Go.MakeChecks.laidMetH_plain _ _ _ plain1] at h
  have h2 : laidMet Tryz.prog [("math/bits.deBruijn64tab", Rows.laid_math_bits_deBruijn64tab), ("cupel/fold.varying", Rows.laid_cupel_fold_varying), ("cupel/inline.zero", Rows.laid_cupel_inline_zero), ("cupel/pipeline.orders", Rows.laid_cupel_pipeline_orders)] W := h
  obtain ⟨ps, ⟨g1, t1, c1, f1, p1, q1, hg1, ht1, hv1, hd1, ⟨g2, t2, c2, f2, p2, q2, hg2, ht2, hv2, hd2, ⟨g3, t3, c3, f3, p3, q3, hg3, ht3, hv3, hd3, ⟨g4, t4, c4, f4, p4, q4, hg4, ht4, hv4, hd4, _, _⟩, _⟩, _⟩, _⟩, _⟩ := h2
  obtain rfl : 3 = g1 := Option.some.inj ((show Tryz.prog.globalNamed "math/bits.deBruijn64tab" = some 3 by kernel_rfl).symm.trans hg1)
  obtain rfl : 1 = g2 := Option.some.inj ((show Tryz.prog.globalNamed "cupel/fold.varying" = some 1 by kernel_rfl).symm.trans hg2)
  obtain rfl : 2 = g3 := Option.some.inj ((show Tryz.prog.globalNamed "cupel/inline.zero" = some 2 by kernel_rfl).symm.trans hg3)
  obtain rfl : 0 = g4 := Option.some.inj ((show Tryz.prog.globalNamed "cupel/pipeline.orders" = some 0 by kernel_rfl).symm.trans hg4)
  obtain rfl : 432 = t1 := Option.some.inj ((show (Tryz.prog.globals[3]?).map (·.type) = some 432 by kernel_rfl).symm.trans ht1)
  obtain rfl : 228 = t2 := Option.some.inj ((show (Tryz.prog.globals[1]?).map (·.type) = some 228 by kernel_rfl).symm.trans ht2)
  obtain rfl : 60 = t3 := Option.some.inj ((show (Tryz.prog.globals[2]?).map (·.type) = some 60 by kernel_rfl).symm.trans ht3)
  obtain rfl : 96 = t4 := Option.some.inj ((show (Tryz.prog.globals[0]?).map (·.type) = some 96 by kernel_rfl).symm.trans ht4)
  have hb : Tryz.prog.cellsOf 4 = 1 := by kernel_rfl
  have hi2 : Tryz.prog.cellsOf 2 = 1 := by kernel_rfl
  have hi3 : Tryz.prog.cellsOf 3 = 1 := by kernel_rfl
  refine gok_of ?_ ?_ ?_ ?_
  · unfold Lib.TabIs
    rw [hv4, ← Lib.cells_of_tab (k := .i64) (zs := ords) Tryz.underlying96 Tryz.underlying3 hi3 (by kernel_rfl) hd4]
  · have hs := Tryz.underlying228
    obtain ⟨y0, y1, y2, n, hx, hl, h0, h1, h2⟩ := Go.Deep.trod_struct3 hs hd2
    dsimp only at h0 h1 h2
    have hc : Tryz.prog.cellsOf 228 = 3 := by kernel_rfl
    rw [hb] at h0 h1
    rw [hi2] at h2
    rw [hc] at hl
    obtain ⟨b0, e0, rfl, _⟩ := DataW.trod_bool (by kernel_rfl) h0
    obtain ⟨b1, e1, rfl, _⟩ := DataW.trod_bool (by kernel_rfl) h1
    obtain ⟨i2, e2, rfl, _⟩ := DataW.trod_int (k := .i64) (by kernel_rfl) h2
    have hx := congrArg Prod.fst hx
    simp only [Rows.laid_cupel_fold_varying, DataW.agg.injEq, List.cons.injEq, DataW.lit.injEq, Lit.bool.injEq, Lit.int.injEq, true_and, and_true] at hx
    obtain ⟨q0, q1, q2⟩ := hx
    rw [hv2]
    refine congrArg some (Array.ext' ?_)
    show c2.toList = vary
    match hL : c2.toList, hl with
    | [a, b, c], _ =>
      rw [hL] at e0 e1 e2
      simp only [List.drop_zero, List.drop_succ_cons, List.take_succ_cons, List.take_zero, List.cons.injEq, and_true] at e0 e1 e2
      rw [e0, e1, e2, ← q0, ← q1, ← q2]
      rfl
  · have hs := Tryz.underlying60
    obtain ⟨y0, y1, n, hx, hl, h0, h1⟩ := trod_struct2 hs hd3
    dsimp only at h0 h1
    have hc : Tryz.prog.cellsOf 60 = 2 := by kernel_rfl
    rw [hi3] at h0
    rw [hi2] at h1
    rw [hc] at hl
    obtain ⟨i0, e0, rfl, _⟩ := DataW.trod_int (k := .i64) (by kernel_rfl) h0
    obtain ⟨i1, e1, rfl, _⟩ := DataW.trod_int (k := .i64) (by kernel_rfl) h1
    have hx := congrArg Prod.fst hx
    simp only [Rows.laid_cupel_inline_zero, DataW.agg.injEq, List.cons.injEq, DataW.lit.injEq, Lit.int.injEq, true_and, and_true] at hx
    obtain ⟨q0, q1⟩ := hx
    rw [hv3]
    refine congrArg some (Array.ext' ?_)
    show c3.toList = zer
    match hL : c3.toList, hl with
    | [a, b], _ =>
      rw [hL] at e0 e1
      simp only [List.drop_zero, List.drop_succ_cons, List.take_succ_cons, List.take_zero, List.cons.injEq, and_true] at e0 e1
      rw [e0, e1, ← q0, ← q1]
      rfl
  · unfold Lib.TabIs
    rw [hv1, ← Lib.cells_of_tab (k := .u8) (zs := debs) Tryz.underlying432 Tryz.underlying5 (by kernel_rfl) (by kernel_rfl) hd1]
end Go.Proofs.YtbkgehknhjkaoaaGreatDoor.Pipe
namespace Go.Proofs.YtbkgehknhjkaoaaGreatDoor.Pipe
open Go Go.ChangeShapes Go.WideShapes Go.ChangeAt Go.RowKit Go.Proofs Go.Joins
theorem own : ownKnob Tryz.prog.godebug = none := by kernel_rfl
theorem door_met (os : Os) (args : Array Value) : laidMetH Tryz.prog laid1 ((World.doorLaid Tryz.prog 21 os).forCall (fun _ _ => 0) ⟨#[], args, []⟩).memory := by
  rw [Go.MakeChecks.laidMetH_plain _ _ _ plain1]
  exact laidMet_of_run' 8 (by kernel_rfl) (by kernel_rfl)
set_option maxRecDepth 100000 in
theorem lifted (os : Os) (started : os.Started) (H : Type) (enc : TypeId × Value → H) :
    ReturnsInHanded {} Tryz.checked os 3 .any (fun w args => (Rows.pipelineKnownSpec.pre enc Tryz.prog Tryz.f3 [] false w args ∧ laidMetH Tryz.prog laid1 w) ∧ sizedMet enc Tryz.prog Tryz.f3 (OpenSpec.ofChange Rows.pipelineKnownSpec) false w args)
      (Rows.pipelineKnownSpec.post enc Tryz.prog Tryz.f3 false true false false) := by
  refine returnsInHanded_of_change_and (C := Tryz.checked) (X := fun w _ => laidMetH Tryz.prog laid1 w) (fun _ _ _ hh h => h.of_heap hh) own started (by kernel_rfl) Tryz.func3
    (ChangeSpec.witness_shaped (enc := enc) (C := Tryz.checked) (os := os) (X := fun w _ => laidMetH Tryz.prog laid1 w) false (World.doorLaid Tryz.prog 21 os) #[] 8 rfl (World.shaped_of_RefB (by kernel_rfl) (by kernel_rfl)) (by kernel_rfl) (by kernel_rfl) (by kernel_rfl) (door_met os _)) ?_
  intro W base args ds gs before hval0 hW _ _ hL _
  have hW' := hW
  obtain ⟨p, q, hA0, hV, rfl, hfz, hnd⟩ := hW
  have hA : DataW.TrodAll enc Tryz.prog W 0 (fun _ => true) true Tryz.f3.params.toList args.toList ds p := hA0
  rw [Tryz.params3] at hA
  obtain ⟨rfl, rfl, rfl⟩ := trodAll_none hA
  obtain ⟨rfl, rfl⟩ := trodVars_none hV
  clear hA0 hval0
  simp only [List.append_nil] at hW'
  refine (known W (gok_of_laid hL)).mono fun e W' ⟨he, hb⟩ => ?_
  subst he
  refine ⟨_, rfl, _, _, _, [], [], [], hW', ?_, ?_, rfl, hb.frame _, fun h => by cases h⟩
  · exact trodAll_mk1 (shut_bool Tryz.underlying4 _)
  · exact trodAll_mk0

end Go.Proofs.YtbkgehknhjkaoaaGreatDoor.Pipe
