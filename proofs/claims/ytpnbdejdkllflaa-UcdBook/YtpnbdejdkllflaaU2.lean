import Derived.Test.YtpnbdejdkllflaaU1
set_option linter.unusedVariables false
namespace Go.Proofs
open Go.Lx Try

def T35 : List Sp := [⟨0, 9, 3⟩, ⟨10, 10, 2⟩, ⟨11, 12, 3⟩, ⟨13, 13, 1⟩, ⟨14, 31, 3⟩, ⟨127, 159, 3⟩, ⟨173, 173, 3⟩, ⟨768, 879, 4⟩, ⟨1155, 1161, 4⟩, ⟨1425, 1469, 4⟩, ⟨1471, 1471, 4⟩, ⟨1473, 1474, 4⟩, ⟨1476, 1477, 4⟩, ⟨1479, 1479, 4⟩, ⟨1536, 1541, 7⟩, ⟨1552, 1562, 4⟩, ⟨1564, 1564, 3⟩, ⟨1611, 1631, 4⟩, ⟨1648, 1648, 4⟩, ⟨1750, 1756, 4⟩, ⟨1757, 1757, 7⟩, ⟨1759, 1764, 4⟩, ⟨1767, 1768, 4⟩, ⟨1770, 1773, 4⟩, ⟨1807, 1807, 7⟩, ⟨1809, 1809, 4⟩, ⟨1840, 1866, 4⟩, ⟨1958, 1968, 4⟩, ⟨2027, 2035, 4⟩, ⟨2070, 2073, 4⟩, ⟨2075, 2083, 4⟩, ⟨2192, 2193, 7⟩, ⟨2259, 2273, 4⟩, ⟨2274, 2274, 7⟩, ⟨2275, 2306, 4⟩, ⟨2307, 2307, 8⟩, ⟨2362, 2362, 4⟩, ⟨2363, 2363, 8⟩, ⟨2364, 2364, 4⟩, ⟨2366, 2368, 8⟩, ⟨2369, 2376, 4⟩, ⟨2377, 2380, 8⟩, ⟨2381, 2381, 4⟩, ⟨2382, 2383, 8⟩, ⟨2385, 2391, 4⟩, ⟨2402, 2403, 4⟩, ⟨2433, 2433, 4⟩, ⟨2434, 2435, 8⟩, ⟨2492, 2492, 4⟩, ⟨2494, 2494, 4⟩, ⟨2495, 2496, 8⟩, ⟨2497, 2500, 4⟩, ⟨2503, 2504, 8⟩, ⟨2507, 2508, 8⟩, ⟨2509, 2509, 4⟩, ⟨2519, 2519, 4⟩, ⟨2530, 2531, 4⟩, ⟨2561, 2562, 4⟩, ⟨2563, 2563, 8⟩, ⟨2620, 2620, 4⟩, ⟨2622, 2624, 8⟩, ⟨2625, 2626, 4⟩, ⟨2631, 2632, 4⟩, ⟨2635, 2637, 4⟩, ⟨2691, 2691, 8⟩, ⟨2748, 2748, 4⟩, ⟨2750, 2752, 8⟩, ⟨2753, 2757, 4⟩, ⟨2761, 2761, 8⟩, ⟨2765, 2765, 4⟩, ⟨2818, 2819, 8⟩, ⟨2876, 2876, 4⟩, ⟨2878, 2879, 4⟩, ⟨2880, 2880, 8⟩, ⟨2881, 2884, 4⟩, ⟨2887, 2888, 8⟩, ⟨2893, 2893, 4⟩, ⟨2902, 2903, 4⟩, ⟨3073, 3075, 8⟩, ⟨3132, 3132, 4⟩, ⟨3134, 3136, 4⟩, ⟨3137, 3140, 8⟩, ⟨3142, 3144, 4⟩, ⟨3146, 3149, 4⟩, ⟨3276, 3277, 4⟩, ⟨3330, 3331, 8⟩, ⟨3390, 3390, 4⟩, ⟨3391, 3392, 8⟩, ⟨3393, 3396, 4⟩, ⟨3398, 3400, 8⟩, ⟨3405, 3405, 4⟩, ⟨3406, 3406, 7⟩, ⟨3633, 3633, 4⟩, ⟨3635, 3635, 8⟩, ⟨3636, 3642, 4⟩, ⟨3655, 3662, 4⟩, ⟨3761, 3761, 4⟩, ⟨3763, 3763, 8⟩, ⟨3764, 3772, 4⟩, ⟨3864, 3865, 4⟩, ⟨3902, 3903, 8⟩, ⟨3953, 3966, 4⟩, ⟨4155, 4156, 8⟩, ⟨4957, 4959, 4⟩, ⟨6158, 6158, 3⟩, ⟨6832, 6862, 4⟩, ⟨7616, 7679, 4⟩, ⟨8203, 8203, 3⟩, ⟨8204, 8204, 4⟩, ⟨8205, 8205, 5⟩, ⟨8206, 8207, 3⟩, ⟨8232, 8238, 3⟩, ⟨8288, 8303, 3⟩, ⟨8400, 8432, 4⟩, ⟨12330, 12335, 4⟩, ⟨12441, 12442, 4⟩, ⟨42607, 42610, 4⟩, ⟨64286, 64286, 4⟩, ⟨65024, 65039, 4⟩, ⟨65056, 65071, 4⟩, ⟨65279, 65279, 3⟩, ⟨65520, 65531, 3⟩, ⟨69821, 69821, 7⟩, ⟨69837, 69837, 7⟩, ⟨127462, 127487, 6⟩, ⟨127995, 127999, 4⟩, ⟨917504, 917535, 3⟩, ⟨917536, 917631, 4⟩, ⟨917632, 917759, 3⟩, ⟨917760, 917999, 4⟩, ⟨918000, 921599, 3⟩]
set_option maxRecDepth 100000 in
theorem c35 (h : Hp) : C prog 35 [] h fun v h' => ∃ a, v = .slice a T35.length T35.length ∧ Ow h.size 55 3 eSp h' a T35.length T35 ∧ Ext h h' := by
  refine enter func35 rfl ntmps35 results35 rfl rfl ?_
  refine x_seq ?_
  refine x_region ?_
  refine r1 rfl (p_as rfl) ?_
  refine o_nil ?_
  refine x_seq ?_
  refine x_region ?_
  refine r1 rfl (p_ba runUnderlying55 zeroValue55 sizeOf3 rfl) ?_
  show O _ _ _ _ ((_, .agg #[_, _, _]) :: _) _ _
  refine r1 rfl (p_ba runUnderlying55 zeroValue55 sizeOf3 rfl) ?_
  show O _ _ _ _ ((_, .agg #[_, _, _]) :: _) _ _
  refine r1 rfl (p_ba runUnderlying55 zeroValue55 sizeOf3 rfl) ?_
  show O _ _ _ _ ((_, .agg #[_, _, _]) :: _) _ _
  refine r1 rfl (p_ba runUnderlying55 zeroValue55 sizeOf3 rfl) ?_
  show O _ _ _ _ ((_, .agg #[_, _, _]) :: _) _ _
  refine r1 rfl (p_ba runUnderlying55 zeroValue55 sizeOf3 rfl) ?_
  show O _ _ _ _ ((_, .agg #[_, _, _]) :: _) _ _
  refine r1 rfl (p_ba runUnderlying55 zeroValue55 sizeOf3 rfl) ?_
  show O _ _ _ _ ((_, .agg #[_, _, _]) :: _) _ _
  refine r1 rfl (p_ba runUnderlying55 zeroValue55 sizeOf3 rfl) ?_
  show O _ _ _ _ ((_, .agg #[_, _, _]) :: _) _ _
  refine r1 rfl (p_ba runUnderlying55 zeroValue55 sizeOf3 rfl) ?_
  show O _ _ _ _ ((_, .agg #[_, _, _]) :: _) _ _
  refine r1 rfl (p_ba runUnderlying55 zeroValue55 sizeOf3 rfl) ?_
  show O _ _ _ _ ((_, .agg #[_, _, _]) :: _) _ _
  refine r1 rfl (p_ba runUnderlying55 zeroValue55 sizeOf3 rfl) ?_
  show O _ _ _ _ ((_, .agg #[_, _, _]) :: _) _ _
  refine r1 rfl (p_ba runUnderlying55 zeroValue55 sizeOf3 rfl) ?_
  show O _ _ _ _ ((_, .agg #[_, _, _]) :: _) _ _
  refine r1 rfl (p_ba runUnderlying55 zeroValue55 sizeOf3 rfl) ?_
  show O _ _ _ _ ((_, .agg #[_, _, _]) :: _) _ _
  refine r1 rfl (p_ba runUnderlying55 zeroValue55 sizeOf3 rfl) ?_
  show O _ _ _ _ ((_, .agg #[_, _, _]) :: _) _ _
  refine r1 rfl (p_ba runUnderlying55 zeroValue55 sizeOf3 rfl) ?_
  show O _ _ _ _ ((_, .agg #[_, _, _]) :: _) _ _
  refine r1 rfl (p_ba runUnderlying55 zeroValue55 sizeOf3 rfl) ?_
  show O _ _ _ _ ((_, .agg #[_, _, _]) :: _) _ _
  refine r1 rfl (p_ba runUnderlying55 zeroValue55 sizeOf3 rfl) ?_
  show O _ _ _ _ ((_, .agg #[_, _, _]) :: _) _ _
  refine r1 rfl (p_ba runUnderlying55 zeroValue55 sizeOf3 rfl) ?_
  show O _ _ _ _ ((_, .agg #[_, _, _]) :: _) _ _
  refine r1 rfl (p_ba runUnderlying55 zeroValue55 sizeOf3 rfl) ?_
  show O _ _ _ _ ((_, .agg #[_, _, _]) :: _) _ _
  refine r1 rfl (p_ba runUnderlying55 zeroValue55 sizeOf3 rfl) ?_
  show O _ _ _ _ ((_, .agg #[_, _, _]) :: _) _ _
  refine r1 rfl (p_ba runUnderlying55 zeroValue55 sizeOf3 rfl) ?_
  show O _ _ _ _ ((_, .agg #[_, _, _]) :: _) _ _
  refine r1 rfl (p_ba runUnderlying55 zeroValue55 sizeOf3 rfl) ?_
  show O _ _ _ _ ((_, .agg #[_, _, _]) :: _) _ _
  refine r1 rfl (p_ba runUnderlying55 zeroValue55 sizeOf3 rfl) ?_
  show O _ _ _ _ ((_, .agg #[_, _, _]) :: _) _ _
  refine r1 rfl (p_ba runUnderlying55 zeroValue55 sizeOf3 rfl) ?_
  show O _ _ _ _ ((_, .agg #[_, _, _]) :: _) _ _
  refine r1 rfl (p_ba runUnderlying55 zeroValue55 sizeOf3 rfl) ?_
  show O _ _ _ _ ((_, .agg #[_, _, _]) :: _) _ _
  refine r1 rfl (p_ba runUnderlying55 zeroValue55 sizeOf3 rfl) ?_
  show O _ _ _ _ ((_, .agg #[_, _, _]) :: _) _ _
  refine r1 rfl (p_ba runUnderlying55 zeroValue55 sizeOf3 rfl) ?_
  show O _ _ _ _ ((_, .agg #[_, _, _]) :: _) _ _
  refine r1 rfl (p_ba runUnderlying55 zeroValue55 sizeOf3 rfl) ?_
  show O _ _ _ _ ((_, .agg #[_, _, _]) :: _) _ _
  refine r1 rfl (p_ba runUnderlying55 zeroValue55 sizeOf3 rfl) ?_
  show O _ _ _ _ ((_, .agg #[_, _, _]) :: _) _ _
  refine r1 rfl (p_ba runUnderlying55 zeroValue55 sizeOf3 rfl) ?_
  show O _ _ _ _ ((_, .agg #[_, _, _]) :: _) _ _
  refine r1 rfl (p_ba runUnderlying55 zeroValue55 sizeOf3 rfl) ?_
  show O _ _ _ _ ((_, .agg #[_, _, _]) :: _) _ _
  refine r1 rfl (p_ba runUnderlying55 zeroValue55 sizeOf3 rfl) ?_
  show O _ _ _ _ ((_, .agg #[_, _, _]) :: _) _ _
  refine r1 rfl (p_ba runUnderlying55 zeroValue55 sizeOf3 rfl) ?_
  show O _ _ _ _ ((_, .agg #[_, _, _]) :: _) _ _
  refine r1 rfl (p_ba runUnderlying55 zeroValue55 sizeOf3 rfl) ?_
  show O _ _ _ _ ((_, .agg #[_, _, _]) :: _) _ _
  refine r1 rfl (p_ba runUnderlying55 zeroValue55 sizeOf3 rfl) ?_
  show O _ _ _ _ ((_, .agg #[_, _, _]) :: _) _ _
  refine r1 rfl (p_ba runUnderlying55 zeroValue55 sizeOf3 rfl) ?_
  show O _ _ _ _ ((_, .agg #[_, _, _]) :: _) _ _
  refine r1 rfl (p_ba runUnderlying55 zeroValue55 sizeOf3 rfl) ?_
  show O _ _ _ _ ((_, .agg #[_, _, _]) :: _) _ _
  refine r1 rfl (p_ba runUnderlying55 zeroValue55 sizeOf3 rfl) ?_
  show O _ _ _ _ ((_, .agg #[_, _, _]) :: _) _ _
  refine r1 rfl (p_ba runUnderlying55 zeroValue55 sizeOf3 rfl) ?_
  show O _ _ _ _ ((_, .agg #[_, _, _]) :: _) _ _
  refine r1 rfl (p_ba runUnderlying55 zeroValue55 sizeOf3 rfl) ?_
  show O _ _ _ _ ((_, .agg #[_, _, _]) :: _) _ _
  refine r1 rfl (p_ba runUnderlying55 zeroValue55 sizeOf3 rfl) ?_
  show O _ _ _ _ ((_, .agg #[_, _, _]) :: _) _ _
  refine r1 rfl (p_ba runUnderlying55 zeroValue55 sizeOf3 rfl) ?_
  show O _ _ _ _ ((_, .agg #[_, _, _]) :: _) _ _
  refine r1 rfl (p_ba runUnderlying55 zeroValue55 sizeOf3 rfl) ?_
  show O _ _ _ _ ((_, .agg #[_, _, _]) :: _) _ _
  refine r1 rfl (p_ba runUnderlying55 zeroValue55 sizeOf3 rfl) ?_
  show O _ _ _ _ ((_, .agg #[_, _, _]) :: _) _ _
  refine r1 rfl (p_ba runUnderlying55 zeroValue55 sizeOf3 rfl) ?_
  show O _ _ _ _ ((_, .agg #[_, _, _]) :: _) _ _
  refine r1 rfl (p_ba runUnderlying55 zeroValue55 sizeOf3 rfl) ?_
  show O _ _ _ _ ((_, .agg #[_, _, _]) :: _) _ _
  refine r1 rfl (p_ba runUnderlying55 zeroValue55 sizeOf3 rfl) ?_
  show O _ _ _ _ ((_, .agg #[_, _, _]) :: _) _ _
  refine r1 rfl (p_ba runUnderlying55 zeroValue55 sizeOf3 rfl) ?_
  show O _ _ _ _ ((_, .agg #[_, _, _]) :: _) _ _
  refine r1 rfl (p_ba runUnderlying55 zeroValue55 sizeOf3 rfl) ?_
  show O _ _ _ _ ((_, .agg #[_, _, _]) :: _) _ _
  refine r1 rfl (p_ba runUnderlying55 zeroValue55 sizeOf3 rfl) ?_
  show O _ _ _ _ ((_, .agg #[_, _, _]) :: _) _ _
  refine r1 rfl (p_ba runUnderlying55 zeroValue55 sizeOf3 rfl) ?_
  show O _ _ _ _ ((_, .agg #[_, _, _]) :: _) _ _
  refine r1 rfl (p_ba runUnderlying55 zeroValue55 sizeOf3 rfl) ?_
  show O _ _ _ _ ((_, .agg #[_, _, _]) :: _) _ _
  refine r1 rfl (p_ba runUnderlying55 zeroValue55 sizeOf3 rfl) ?_
  show O _ _ _ _ ((_, .agg #[_, _, _]) :: _) _ _
  refine r1 rfl (p_ba runUnderlying55 zeroValue55 sizeOf3 rfl) ?_
  show O _ _ _ _ ((_, .agg #[_, _, _]) :: _) _ _
  refine r1 rfl (p_ba runUnderlying55 zeroValue55 sizeOf3 rfl) ?_
  show O _ _ _ _ ((_, .agg #[_, _, _]) :: _) _ _
  refine r1 rfl (p_ba runUnderlying55 zeroValue55 sizeOf3 rfl) ?_
  show O _ _ _ _ ((_, .agg #[_, _, _]) :: _) _ _
  refine r1 rfl (p_ba runUnderlying55 zeroValue55 sizeOf3 rfl) ?_
  show O _ _ _ _ ((_, .agg #[_, _, _]) :: _) _ _
  refine r1 rfl (p_ba runUnderlying55 zeroValue55 sizeOf3 rfl) ?_
  show O _ _ _ _ ((_, .agg #[_, _, _]) :: _) _ _
  refine r1 rfl (p_ba runUnderlying55 zeroValue55 sizeOf3 rfl) ?_
  show O _ _ _ _ ((_, .agg #[_, _, _]) :: _) _ _
  refine r1 rfl (p_ba runUnderlying55 zeroValue55 sizeOf3 rfl) ?_
  show O _ _ _ _ ((_, .agg #[_, _, _]) :: _) _ _
  refine r1 rfl (p_ba runUnderlying55 zeroValue55 sizeOf3 rfl) ?_
  show O _ _ _ _ ((_, .agg #[_, _, _]) :: _) _ _
  refine r1 rfl (p_ba runUnderlying55 zeroValue55 sizeOf3 rfl) ?_
  show O _ _ _ _ ((_, .agg #[_, _, _]) :: _) _ _
  refine r1 rfl (p_ba runUnderlying55 zeroValue55 sizeOf3 rfl) ?_
  show O _ _ _ _ ((_, .agg #[_, _, _]) :: _) _ _
  refine r1 rfl (p_ba runUnderlying55 zeroValue55 sizeOf3 rfl) ?_
  show O _ _ _ _ ((_, .agg #[_, _, _]) :: _) _ _
  refine r1 rfl (p_ba runUnderlying55 zeroValue55 sizeOf3 rfl) ?_
  show O _ _ _ _ ((_, .agg #[_, _, _]) :: _) _ _
  refine r1 rfl (p_ba runUnderlying55 zeroValue55 sizeOf3 rfl) ?_
  show O _ _ _ _ ((_, .agg #[_, _, _]) :: _) _ _
  refine r1 rfl (p_ba runUnderlying55 zeroValue55 sizeOf3 rfl) ?_
  show O _ _ _ _ ((_, .agg #[_, _, _]) :: _) _ _
  refine r1 rfl (p_ba runUnderlying55 zeroValue55 sizeOf3 rfl) ?_
  show O _ _ _ _ ((_, .agg #[_, _, _]) :: _) _ _
  refine r1 rfl (p_ba runUnderlying55 zeroValue55 sizeOf3 rfl) ?_
  show O _ _ _ _ ((_, .agg #[_, _, _]) :: _) _ _
  refine r1 rfl (p_ba runUnderlying55 zeroValue55 sizeOf3 rfl) ?_
  show O _ _ _ _ ((_, .agg #[_, _, _]) :: _) _ _
  refine r1 rfl (p_ba runUnderlying55 zeroValue55 sizeOf3 rfl) ?_
  show O _ _ _ _ ((_, .agg #[_, _, _]) :: _) _ _
  refine r1 rfl (p_ba runUnderlying55 zeroValue55 sizeOf3 rfl) ?_
  show O _ _ _ _ ((_, .agg #[_, _, _]) :: _) _ _
  refine r1 rfl (p_ba runUnderlying55 zeroValue55 sizeOf3 rfl) ?_
  show O _ _ _ _ ((_, .agg #[_, _, _]) :: _) _ _
  refine r1 rfl (p_ba runUnderlying55 zeroValue55 sizeOf3 rfl) ?_
  show O _ _ _ _ ((_, .agg #[_, _, _]) :: _) _ _
  refine r1 rfl (p_ba runUnderlying55 zeroValue55 sizeOf3 rfl) ?_
  show O _ _ _ _ ((_, .agg #[_, _, _]) :: _) _ _
  refine r1 rfl (p_ba runUnderlying55 zeroValue55 sizeOf3 rfl) ?_
  show O _ _ _ _ ((_, .agg #[_, _, _]) :: _) _ _
  refine r1 rfl (p_ba runUnderlying55 zeroValue55 sizeOf3 rfl) ?_
  show O _ _ _ _ ((_, .agg #[_, _, _]) :: _) _ _
  refine r1 rfl (p_ba runUnderlying55 zeroValue55 sizeOf3 rfl) ?_
  show O _ _ _ _ ((_, .agg #[_, _, _]) :: _) _ _
  refine r1 rfl (p_ba runUnderlying55 zeroValue55 sizeOf3 rfl) ?_
  show O _ _ _ _ ((_, .agg #[_, _, _]) :: _) _ _
  refine r1 rfl (p_ba runUnderlying55 zeroValue55 sizeOf3 rfl) ?_
  show O _ _ _ _ ((_, .agg #[_, _, _]) :: _) _ _
  refine r1 rfl (p_ba runUnderlying55 zeroValue55 sizeOf3 rfl) ?_
  show O _ _ _ _ ((_, .agg #[_, _, _]) :: _) _ _
  refine r1 rfl (p_ba runUnderlying55 zeroValue55 sizeOf3 rfl) ?_
  show O _ _ _ _ ((_, .agg #[_, _, _]) :: _) _ _
  refine r1 rfl (p_ba runUnderlying55 zeroValue55 sizeOf3 rfl) ?_
  show O _ _ _ _ ((_, .agg #[_, _, _]) :: _) _ _
  refine r1 rfl (p_ba runUnderlying55 zeroValue55 sizeOf3 rfl) ?_
  show O _ _ _ _ ((_, .agg #[_, _, _]) :: _) _ _
  refine r1 rfl (p_ba runUnderlying55 zeroValue55 sizeOf3 rfl) ?_
  show O _ _ _ _ ((_, .agg #[_, _, _]) :: _) _ _
  refine r1 rfl (p_ba runUnderlying55 zeroValue55 sizeOf3 rfl) ?_
  show O _ _ _ _ ((_, .agg #[_, _, _]) :: _) _ _
  refine r1 rfl (p_ba runUnderlying55 zeroValue55 sizeOf3 rfl) ?_
  show O _ _ _ _ ((_, .agg #[_, _, _]) :: _) _ _
  refine r1 rfl (p_ba runUnderlying55 zeroValue55 sizeOf3 rfl) ?_
  show O _ _ _ _ ((_, .agg #[_, _, _]) :: _) _ _
  refine r1 rfl (p_ba runUnderlying55 zeroValue55 sizeOf3 rfl) ?_
  show O _ _ _ _ ((_, .agg #[_, _, _]) :: _) _ _
  refine r1 rfl (p_ba runUnderlying55 zeroValue55 sizeOf3 rfl) ?_
  show O _ _ _ _ ((_, .agg #[_, _, _]) :: _) _ _
  refine r1 rfl (p_ba runUnderlying55 zeroValue55 sizeOf3 rfl) ?_
  show O _ _ _ _ ((_, .agg #[_, _, _]) :: _) _ _
  refine r1 rfl (p_ba runUnderlying55 zeroValue55 sizeOf3 rfl) ?_
  show O _ _ _ _ ((_, .agg #[_, _, _]) :: _) _ _
  refine r1 rfl (p_ba runUnderlying55 zeroValue55 sizeOf3 rfl) ?_
  show O _ _ _ _ ((_, .agg #[_, _, _]) :: _) _ _
  refine r1 rfl (p_ba runUnderlying55 zeroValue55 sizeOf3 rfl) ?_
  show O _ _ _ _ ((_, .agg #[_, _, _]) :: _) _ _
  refine r1 rfl (p_ba runUnderlying55 zeroValue55 sizeOf3 rfl) ?_
  show O _ _ _ _ ((_, .agg #[_, _, _]) :: _) _ _
  refine r1 rfl (p_ba runUnderlying55 zeroValue55 sizeOf3 rfl) ?_
  show O _ _ _ _ ((_, .agg #[_, _, _]) :: _) _ _
  refine r1 rfl (p_ba runUnderlying55 zeroValue55 sizeOf3 rfl) ?_
  show O _ _ _ _ ((_, .agg #[_, _, _]) :: _) _ _
  refine r1 rfl (p_ba runUnderlying55 zeroValue55 sizeOf3 rfl) ?_
  show O _ _ _ _ ((_, .agg #[_, _, _]) :: _) _ _
  refine r1 rfl (p_ba runUnderlying55 zeroValue55 sizeOf3 rfl) ?_
  show O _ _ _ _ ((_, .agg #[_, _, _]) :: _) _ _
  refine r1 rfl (p_ba runUnderlying55 zeroValue55 sizeOf3 rfl) ?_
  show O _ _ _ _ ((_, .agg #[_, _, _]) :: _) _ _
  refine r1 rfl (p_ba runUnderlying55 zeroValue55 sizeOf3 rfl) ?_
  show O _ _ _ _ ((_, .agg #[_, _, _]) :: _) _ _
  refine r1 rfl (p_ba runUnderlying55 zeroValue55 sizeOf3 rfl) ?_
  show O _ _ _ _ ((_, .agg #[_, _, _]) :: _) _ _
  refine r1 rfl (p_ba runUnderlying55 zeroValue55 sizeOf3 rfl) ?_
  show O _ _ _ _ ((_, .agg #[_, _, _]) :: _) _ _
  refine r1 rfl (p_ba runUnderlying55 zeroValue55 sizeOf3 rfl) ?_
  show O _ _ _ _ ((_, .agg #[_, _, _]) :: _) _ _
  refine r1 rfl (p_ba runUnderlying55 zeroValue55 sizeOf3 rfl) ?_
  show O _ _ _ _ ((_, .agg #[_, _, _]) :: _) _ _
  refine r1 rfl (p_ba runUnderlying55 zeroValue55 sizeOf3 rfl) ?_
  show O _ _ _ _ ((_, .agg #[_, _, _]) :: _) _ _
  refine r1 rfl (p_ba runUnderlying55 zeroValue55 sizeOf3 rfl) ?_
  show O _ _ _ _ ((_, .agg #[_, _, _]) :: _) _ _
  refine r1 rfl (p_ba runUnderlying55 zeroValue55 sizeOf3 rfl) ?_
  show O _ _ _ _ ((_, .agg #[_, _, _]) :: _) _ _
  refine r1 rfl (p_ba runUnderlying55 zeroValue55 sizeOf3 rfl) ?_
  show O _ _ _ _ ((_, .agg #[_, _, _]) :: _) _ _
  refine r1 rfl (p_ba runUnderlying55 zeroValue55 sizeOf3 rfl) ?_
  show O _ _ _ _ ((_, .agg #[_, _, _]) :: _) _ _
  refine r1 rfl (p_ba runUnderlying55 zeroValue55 sizeOf3 rfl) ?_
  show O _ _ _ _ ((_, .agg #[_, _, _]) :: _) _ _
  refine r1 rfl (p_ba runUnderlying55 zeroValue55 sizeOf3 rfl) ?_
  show O _ _ _ _ ((_, .agg #[_, _, _]) :: _) _ _
  refine r1 rfl (p_ba runUnderlying55 zeroValue55 sizeOf3 rfl) ?_
  show O _ _ _ _ ((_, .agg #[_, _, _]) :: _) _ _
  refine r1 rfl (p_ba runUnderlying55 zeroValue55 sizeOf3 rfl) ?_
  show O _ _ _ _ ((_, .agg #[_, _, _]) :: _) _ _
  refine r1 rfl (p_ba runUnderlying55 zeroValue55 sizeOf3 rfl) ?_
  show O _ _ _ _ ((_, .agg #[_, _, _]) :: _) _ _
  refine r1 rfl (p_ba runUnderlying55 zeroValue55 sizeOf3 rfl) ?_
  show O _ _ _ _ ((_, .agg #[_, _, _]) :: _) _ _
  refine r1 rfl (p_ba runUnderlying55 zeroValue55 sizeOf3 rfl) ?_
  show O _ _ _ _ ((_, .agg #[_, _, _]) :: _) _ _
  refine r1 rfl (p_ba runUnderlying55 zeroValue55 sizeOf3 rfl) ?_
  show O _ _ _ _ ((_, .agg #[_, _, _]) :: _) _ _
  refine r1 rfl (p_ba runUnderlying55 zeroValue55 sizeOf3 rfl) ?_
  show O _ _ _ _ ((_, .agg #[_, _, _]) :: _) _ _
  refine r1 rfl (p_ba runUnderlying55 zeroValue55 sizeOf3 rfl) ?_
  show O _ _ _ _ ((_, .agg #[_, _, _]) :: _) _ _
  refine r1 rfl (p_ba runUnderlying55 zeroValue55 sizeOf3 rfl) ?_
  show O _ _ _ _ ((_, .agg #[_, _, _]) :: _) _ _
  refine r1 rfl (p_ba runUnderlying55 zeroValue55 sizeOf3 rfl) ?_
  show O _ _ _ _ ((_, .agg #[_, _, _]) :: _) _ _
  refine r1 rfl (p_ba runUnderlying55 zeroValue55 sizeOf3 rfl) ?_
  show O _ _ _ _ ((_, .agg #[_, _, _]) :: _) _ _
  refine r1 rfl (p_ba runUnderlying55 zeroValue55 sizeOf3 rfl) ?_
  show O _ _ _ _ ((_, .agg #[_, _, _]) :: _) _ _
  refine r1 rfl (p_ba runUnderlying55 zeroValue55 sizeOf3 rfl) ?_
  show O _ _ _ _ ((_, .agg #[_, _, _]) :: _) _ _
  refine r1 rfl (p_ba runUnderlying55 zeroValue55 sizeOf3 rfl) ?_
  show O _ _ _ _ ((_, .agg #[_, _, _]) :: _) _ _
  refine r1 rfl (p_ba runUnderlying55 zeroValue55 sizeOf3 rfl) ?_
  show O _ _ _ _ ((_, .agg #[_, _, _]) :: _) _ _
  refine r1 rfl (p_ba runUnderlying55 zeroValue55 sizeOf3 rfl) ?_
  show O _ _ _ _ ((_, .agg #[_, _, _]) :: _) _ _
  refine r1 rfl (p_ba runUnderlying55 zeroValue55 sizeOf3 rfl) ?_
  show O _ _ _ _ ((_, .agg #[_, _, _]) :: _) _ _
  refine r1 rfl (p_ba runUnderlying55 zeroValue55 sizeOf3 rfl) ?_
  show O _ _ _ _ ((_, .agg #[_, _, _]) :: _) _ _
  refine r1 rfl (p_ba runUnderlying55 zeroValue55 sizeOf3 rfl) ?_
  show O _ _ _ _ ((_, .agg #[_, _, _]) :: _) _ _
  refine r1 rfl (p_ba runUnderlying55 zeroValue55 sizeOf3 rfl) ?_
  show O _ _ _ _ ((_, .agg #[_, _, _]) :: _) _ _
  refine o1 rfl (s_bsl (ws := fl eSp T35) runUnderlying53 sizeOf55 zeroValue55 rfl (by decide) (by decide) rfl (by kernel_rfl) ?_)
  intro b h1 n1
  refine r1 rfl (p_as rfl) ?_
  refine o_nil ?_
  refine x_ret (fin1 rfl ?_)
  exact ⟨_, rfl, n1.ow (n1.ge (Ext.refl _)) T35 rfl leneSp, n1.ext⟩
def T37 : List (Int × Int) := [(169, 169), (174, 174), (8252, 8252), (8265, 8265), (8482, 8482), (8505, 8505), (8596, 8601), (8617, 8618), (8986, 8987), (9000, 9000), (9096, 9096), (9167, 9167), (9193, 9203), (9208, 9210), (9410, 9410), (9642, 9643), (9654, 9654), (9664, 9664), (9723, 9726), (9728, 9733), (9735, 9746), (9748, 9861), (9872, 9989), (9992, 10002), (10004, 10004), (10006, 10006), (10013, 10013), (10017, 10017), (10024, 10024), (10035, 10036), (10052, 10052), (10055, 10055), (10060, 10060), (10062, 10062), (10067, 10069), (10071, 10071), (10083, 10087), (10133, 10135), (10145, 10145), (10160, 10160), (10175, 10175), (10548, 10549), (11013, 11015), (11035, 11036), (11088, 11088), (11093, 11093), (12336, 12336), (12349, 12349), (12951, 12951), (12953, 12953), (126976, 127231), (127245, 127247), (127279, 127279), (127340, 127345), (127358, 127359), (127374, 127374), (127377, 127386), (127405, 127461), (127489, 127503), (127514, 127514), (127535, 127535), (127538, 127546), (127548, 127551), (127561, 127994), (128000, 128317), (128326, 128591), (128640, 128767), (128884, 128895), (128981, 129023), (129036, 129039), (129096, 129103), (129114, 129119), (129160, 129167), (129198, 129279), (129292, 129338), (129340, 129349), (129351, 129791), (130048, 131069)]
set_option maxRecDepth 100000 in
theorem c37 (h : Hp) : C prog 37 [] h fun v h' => ∃ a, v = .slice a T37.length T37.length ∧ Ow h.size 59 2 r2 h' a T37.length T37 ∧ Ext h h' := by
  refine enter func37 rfl ntmps37 results37 rfl rfl ?_
  refine x_seq ?_
  refine x_region ?_
  refine r1 rfl (p_as rfl) ?_
  refine o_nil ?_
  refine x_seq ?_
  refine x_region ?_
  refine r1 rfl (p_ba runUnderlying59 zeroValue59 sizeOf21 rfl) ?_
  show O _ _ _ _ ((_, .agg #[_, _]) :: _) _ _
  refine r1 rfl (p_ba runUnderlying59 zeroValue59 sizeOf21 rfl) ?_
  show O _ _ _ _ ((_, .agg #[_, _]) :: _) _ _
  refine r1 rfl (p_ba runUnderlying59 zeroValue59 sizeOf21 rfl) ?_
  show O _ _ _ _ ((_, .agg #[_, _]) :: _) _ _
  refine r1 rfl (p_ba runUnderlying59 zeroValue59 sizeOf21 rfl) ?_
  show O _ _ _ _ ((_, .agg #[_, _]) :: _) _ _
  refine r1 rfl (p_ba runUnderlying59 zeroValue59 sizeOf21 rfl) ?_
  show O _ _ _ _ ((_, .agg #[_, _]) :: _) _ _
  refine r1 rfl (p_ba runUnderlying59 zeroValue59 sizeOf21 rfl) ?_
  show O _ _ _ _ ((_, .agg #[_, _]) :: _) _ _
  refine r1 rfl (p_ba runUnderlying59 zeroValue59 sizeOf21 rfl) ?_
  show O _ _ _ _ ((_, .agg #[_, _]) :: _) _ _
  refine r1 rfl (p_ba runUnderlying59 zeroValue59 sizeOf21 rfl) ?_
  show O _ _ _ _ ((_, .agg #[_, _]) :: _) _ _
  refine r1 rfl (p_ba runUnderlying59 zeroValue59 sizeOf21 rfl) ?_
  show O _ _ _ _ ((_, .agg #[_, _]) :: _) _ _
  refine r1 rfl (p_ba runUnderlying59 zeroValue59 sizeOf21 rfl) ?_
  show O _ _ _ _ ((_, .agg #[_, _]) :: _) _ _
  refine r1 rfl (p_ba runUnderlying59 zeroValue59 sizeOf21 rfl) ?_
  show O _ _ _ _ ((_, .agg #[_, _]) :: _) _ _
  refine r1 rfl (p_ba runUnderlying59 zeroValue59 sizeOf21 rfl) ?_
  show O _ _ _ _ ((_, .agg #[_, _]) :: _) _ _
  refine r1 rfl (p_ba runUnderlying59 zeroValue59 sizeOf21 rfl) ?_
  show O _ _ _ _ ((_, .agg #[_, _]) :: _) _ _
  refine r1 rfl (p_ba runUnderlying59 zeroValue59 sizeOf21 rfl) ?_
  show O _ _ _ _ ((_, .agg #[_, _]) :: _) _ _
  refine r1 rfl (p_ba runUnderlying59 zeroValue59 sizeOf21 rfl) ?_
  show O _ _ _ _ ((_, .agg #[_, _]) :: _) _ _
  refine r1 rfl (p_ba runUnderlying59 zeroValue59 sizeOf21 rfl) ?_
  show O _ _ _ _ ((_, .agg #[_, _]) :: _) _ _
  refine r1 rfl (p_ba runUnderlying59 zeroValue59 sizeOf21 rfl) ?_
  show O _ _ _ _ ((_, .agg #[_, _]) :: _) _ _
  refine r1 rfl (p_ba runUnderlying59 zeroValue59 sizeOf21 rfl) ?_
  show O _ _ _ _ ((_, .agg #[_, _]) :: _) _ _
  refine r1 rfl (p_ba runUnderlying59 zeroValue59 sizeOf21 rfl) ?_
  show O _ _ _ _ ((_, .agg #[_, _]) :: _) _ _
  refine r1 rfl (p_ba runUnderlying59 zeroValue59 sizeOf21 rfl) ?_
  show O _ _ _ _ ((_, .agg #[_, _]) :: _) _ _
  refine r1 rfl (p_ba runUnderlying59 zeroValue59 sizeOf21 rfl) ?_
  show O _ _ _ _ ((_, .agg #[_, _]) :: _) _ _
  refine r1 rfl (p_ba runUnderlying59 zeroValue59 sizeOf21 rfl) ?_
  show O _ _ _ _ ((_, .agg #[_, _]) :: _) _ _
  refine r1 rfl (p_ba runUnderlying59 zeroValue59 sizeOf21 rfl) ?_
  show O _ _ _ _ ((_, .agg #[_, _]) :: _) _ _
  refine r1 rfl (p_ba runUnderlying59 zeroValue59 sizeOf21 rfl) ?_
  show O _ _ _ _ ((_, .agg #[_, _]) :: _) _ _
  refine r1 rfl (p_ba runUnderlying59 zeroValue59 sizeOf21 rfl) ?_
  show O _ _ _ _ ((_, .agg #[_, _]) :: _) _ _
  refine r1 rfl (p_ba runUnderlying59 zeroValue59 sizeOf21 rfl) ?_
  show O _ _ _ _ ((_, .agg #[_, _]) :: _) _ _
  refine r1 rfl (p_ba runUnderlying59 zeroValue59 sizeOf21 rfl) ?_
  show O _ _ _ _ ((_, .agg #[_, _]) :: _) _ _
  refine r1 rfl (p_ba runUnderlying59 zeroValue59 sizeOf21 rfl) ?_
  show O _ _ _ _ ((_, .agg #[_, _]) :: _) _ _
  refine r1 rfl (p_ba runUnderlying59 zeroValue59 sizeOf21 rfl) ?_
  show O _ _ _ _ ((_, .agg #[_, _]) :: _) _ _
  refine r1 rfl (p_ba runUnderlying59 zeroValue59 sizeOf21 rfl) ?_
  show O _ _ _ _ ((_, .agg #[_, _]) :: _) _ _
  refine r1 rfl (p_ba runUnderlying59 zeroValue59 sizeOf21 rfl) ?_
  show O _ _ _ _ ((_, .agg #[_, _]) :: _) _ _
  refine r1 rfl (p_ba runUnderlying59 zeroValue59 sizeOf21 rfl) ?_
  show O _ _ _ _ ((_, .agg #[_, _]) :: _) _ _
  refine r1 rfl (p_ba runUnderlying59 zeroValue59 sizeOf21 rfl) ?_
  show O _ _ _ _ ((_, .agg #[_, _]) :: _) _ _
  refine r1 rfl (p_ba runUnderlying59 zeroValue59 sizeOf21 rfl) ?_
  show O _ _ _ _ ((_, .agg #[_, _]) :: _) _ _
  refine r1 rfl (p_ba runUnderlying59 zeroValue59 sizeOf21 rfl) ?_
  show O _ _ _ _ ((_, .agg #[_, _]) :: _) _ _
  refine r1 rfl (p_ba runUnderlying59 zeroValue59 sizeOf21 rfl) ?_
  show O _ _ _ _ ((_, .agg #[_, _]) :: _) _ _
  refine r1 rfl (p_ba runUnderlying59 zeroValue59 sizeOf21 rfl) ?_
  show O _ _ _ _ ((_, .agg #[_, _]) :: _) _ _
  refine r1 rfl (p_ba runUnderlying59 zeroValue59 sizeOf21 rfl) ?_
  show O _ _ _ _ ((_, .agg #[_, _]) :: _) _ _
  refine r1 rfl (p_ba runUnderlying59 zeroValue59 sizeOf21 rfl) ?_
  show O _ _ _ _ ((_, .agg #[_, _]) :: _) _ _
  refine r1 rfl (p_ba runUnderlying59 zeroValue59 sizeOf21 rfl) ?_
  show O _ _ _ _ ((_, .agg #[_, _]) :: _) _ _
  refine r1 rfl (p_ba runUnderlying59 zeroValue59 sizeOf21 rfl) ?_
  show O _ _ _ _ ((_, .agg #[_, _]) :: _) _ _
  refine r1 rfl (p_ba runUnderlying59 zeroValue59 sizeOf21 rfl) ?_
  show O _ _ _ _ ((_, .agg #[_, _]) :: _) _ _
  refine r1 rfl (p_ba runUnderlying59 zeroValue59 sizeOf21 rfl) ?_
  show O _ _ _ _ ((_, .agg #[_, _]) :: _) _ _
  refine r1 rfl (p_ba runUnderlying59 zeroValue59 sizeOf21 rfl) ?_
  show O _ _ _ _ ((_, .agg #[_, _]) :: _) _ _
  refine r1 rfl (p_ba runUnderlying59 zeroValue59 sizeOf21 rfl) ?_
  show O _ _ _ _ ((_, .agg #[_, _]) :: _) _ _
  refine r1 rfl (p_ba runUnderlying59 zeroValue59 sizeOf21 rfl) ?_
  show O _ _ _ _ ((_, .agg #[_, _]) :: _) _ _
  refine r1 rfl (p_ba runUnderlying59 zeroValue59 sizeOf21 rfl) ?_
  show O _ _ _ _ ((_, .agg #[_, _]) :: _) _ _
  refine r1 rfl (p_ba runUnderlying59 zeroValue59 sizeOf21 rfl) ?_
  show O _ _ _ _ ((_, .agg #[_, _]) :: _) _ _
  refine r1 rfl (p_ba runUnderlying59 zeroValue59 sizeOf21 rfl) ?_
  show O _ _ _ _ ((_, .agg #[_, _]) :: _) _ _
  refine r1 rfl (p_ba runUnderlying59 zeroValue59 sizeOf21 rfl) ?_
  show O _ _ _ _ ((_, .agg #[_, _]) :: _) _ _
  refine r1 rfl (p_ba runUnderlying59 zeroValue59 sizeOf21 rfl) ?_
  show O _ _ _ _ ((_, .agg #[_, _]) :: _) _ _
  refine r1 rfl (p_ba runUnderlying59 zeroValue59 sizeOf21 rfl) ?_
  show O _ _ _ _ ((_, .agg #[_, _]) :: _) _ _
  refine r1 rfl (p_ba runUnderlying59 zeroValue59 sizeOf21 rfl) ?_
  show O _ _ _ _ ((_, .agg #[_, _]) :: _) _ _
  refine r1 rfl (p_ba runUnderlying59 zeroValue59 sizeOf21 rfl) ?_
  show O _ _ _ _ ((_, .agg #[_, _]) :: _) _ _
  refine r1 rfl (p_ba runUnderlying59 zeroValue59 sizeOf21 rfl) ?_
  show O _ _ _ _ ((_, .agg #[_, _]) :: _) _ _
  refine r1 rfl (p_ba runUnderlying59 zeroValue59 sizeOf21 rfl) ?_
  show O _ _ _ _ ((_, .agg #[_, _]) :: _) _ _
  refine r1 rfl (p_ba runUnderlying59 zeroValue59 sizeOf21 rfl) ?_
  show O _ _ _ _ ((_, .agg #[_, _]) :: _) _ _
  refine r1 rfl (p_ba runUnderlying59 zeroValue59 sizeOf21 rfl) ?_
  show O _ _ _ _ ((_, .agg #[_, _]) :: _) _ _
  refine r1 rfl (p_ba runUnderlying59 zeroValue59 sizeOf21 rfl) ?_
  show O _ _ _ _ ((_, .agg #[_, _]) :: _) _ _
  refine r1 rfl (p_ba runUnderlying59 zeroValue59 sizeOf21 rfl) ?_
  show O _ _ _ _ ((_, .agg #[_, _]) :: _) _ _
  refine r1 rfl (p_ba runUnderlying59 zeroValue59 sizeOf21 rfl) ?_
  show O _ _ _ _ ((_, .agg #[_, _]) :: _) _ _
  refine r1 rfl (p_ba runUnderlying59 zeroValue59 sizeOf21 rfl) ?_
  show O _ _ _ _ ((_, .agg #[_, _]) :: _) _ _
  refine r1 rfl (p_ba runUnderlying59 zeroValue59 sizeOf21 rfl) ?_
  show O _ _ _ _ ((_, .agg #[_, _]) :: _) _ _
  refine r1 rfl (p_ba runUnderlying59 zeroValue59 sizeOf21 rfl) ?_
  show O _ _ _ _ ((_, .agg #[_, _]) :: _) _ _
  refine r1 rfl (p_ba runUnderlying59 zeroValue59 sizeOf21 rfl) ?_
  show O _ _ _ _ ((_, .agg #[_, _]) :: _) _ _
  refine r1 rfl (p_ba runUnderlying59 zeroValue59 sizeOf21 rfl) ?_
  show O _ _ _ _ ((_, .agg #[_, _]) :: _) _ _
  refine r1 rfl (p_ba runUnderlying59 zeroValue59 sizeOf21 rfl) ?_
  show O _ _ _ _ ((_, .agg #[_, _]) :: _) _ _
  refine r1 rfl (p_ba runUnderlying59 zeroValue59 sizeOf21 rfl) ?_
  show O _ _ _ _ ((_, .agg #[_, _]) :: _) _ _
  refine r1 rfl (p_ba runUnderlying59 zeroValue59 sizeOf21 rfl) ?_
  show O _ _ _ _ ((_, .agg #[_, _]) :: _) _ _
  refine r1 rfl (p_ba runUnderlying59 zeroValue59 sizeOf21 rfl) ?_
  show O _ _ _ _ ((_, .agg #[_, _]) :: _) _ _
  refine r1 rfl (p_ba runUnderlying59 zeroValue59 sizeOf21 rfl) ?_
  show O _ _ _ _ ((_, .agg #[_, _]) :: _) _ _
  refine r1 rfl (p_ba runUnderlying59 zeroValue59 sizeOf21 rfl) ?_
  show O _ _ _ _ ((_, .agg #[_, _]) :: _) _ _
  refine r1 rfl (p_ba runUnderlying59 zeroValue59 sizeOf21 rfl) ?_
  show O _ _ _ _ ((_, .agg #[_, _]) :: _) _ _
  refine r1 rfl (p_ba runUnderlying59 zeroValue59 sizeOf21 rfl) ?_
  show O _ _ _ _ ((_, .agg #[_, _]) :: _) _ _
  refine r1 rfl (p_ba runUnderlying59 zeroValue59 sizeOf21 rfl) ?_
  show O _ _ _ _ ((_, .agg #[_, _]) :: _) _ _
  refine r1 rfl (p_ba runUnderlying59 zeroValue59 sizeOf21 rfl) ?_
  show O _ _ _ _ ((_, .agg #[_, _]) :: _) _ _
  refine r1 rfl (p_ba runUnderlying59 zeroValue59 sizeOf21 rfl) ?_
  show O _ _ _ _ ((_, .agg #[_, _]) :: _) _ _
  refine r1 rfl (p_ba runUnderlying59 zeroValue59 sizeOf21 rfl) ?_
  show O _ _ _ _ ((_, .agg #[_, _]) :: _) _ _
  refine o1 rfl (s_bsl (ws := fl r2 T37) runUnderlying57 sizeOf59 zeroValue59 rfl (by decide) (by decide) rfl (by kernel_rfl) ?_)
  intro b h1 n1
  refine r1 rfl (p_as rfl) ?_
  refine o_nil ?_
  refine x_ret (fin1 rfl ?_)
  exact ⟨_, rfl, n1.ow (n1.ge (Ext.refl _)) T37 rfl lenr2, n1.ext⟩
def T38 : List Sp := [⟨768, 879, 3⟩, ⟨1155, 1159, 3⟩, ⟨1425, 1469, 3⟩, ⟨1552, 1562, 3⟩, ⟨1611, 1631, 3⟩, ⟨2325, 2361, 1⟩, ⟨2364, 2364, 3⟩, ⟨2381, 2381, 2⟩, ⟨2385, 2388, 3⟩, ⟨2392, 2399, 1⟩, ⟨2424, 2431, 1⟩, ⟨2453, 2472, 1⟩, ⟨2474, 2480, 1⟩, ⟨2482, 2482, 1⟩, ⟨2486, 2489, 1⟩, ⟨2492, 2492, 3⟩, ⟨2509, 2509, 2⟩, ⟨2524, 2525, 1⟩, ⟨2527, 2527, 1⟩, ⟨2544, 2545, 1⟩, ⟨2709, 2728, 1⟩, ⟨2730, 2736, 1⟩, ⟨2738, 2739, 1⟩, ⟨2741, 2745, 1⟩, ⟨2748, 2748, 3⟩, ⟨2765, 2765, 2⟩, ⟨2809, 2809, 1⟩, ⟨2837, 2856, 1⟩, ⟨2858, 2864, 1⟩, ⟨2866, 2867, 1⟩, ⟨2869, 2873, 1⟩, ⟨2876, 2876, 3⟩, ⟨2893, 2893, 2⟩, ⟨2908, 2909, 1⟩, ⟨2911, 2911, 1⟩, ⟨2929, 2929, 1⟩, ⟨3093, 3112, 1⟩, ⟨3114, 3129, 1⟩, ⟨3132, 3132, 3⟩, ⟨3149, 3149, 2⟩, ⟨3160, 3162, 1⟩, ⟨3349, 3386, 1⟩, ⟨3405, 3405, 2⟩, ⟨6832, 6845, 3⟩, ⟨7616, 7679, 3⟩, ⟨8205, 8205, 3⟩, ⟨8400, 8412, 3⟩, ⟨12330, 12335, 3⟩, ⟨12441, 12442, 3⟩, ⟨65056, 65071, 3⟩]
set_option maxRecDepth 100000 in
theorem c38 (h : Hp) : C prog 38 [] h fun v h' => ∃ a, v = .slice a T38.length T38.length ∧ Ow h.size 55 3 eSp h' a T38.length T38 ∧ Ext h h' := by
  refine enter func38 rfl ntmps38 results38 rfl rfl ?_
  refine x_seq ?_
  refine x_region ?_
  refine r1 rfl (p_as rfl) ?_
  refine o_nil ?_
  refine x_seq ?_
  refine x_region ?_
  refine r1 rfl (p_ba runUnderlying55 zeroValue55 sizeOf3 rfl) ?_
  show O _ _ _ _ ((_, .agg #[_, _, _]) :: _) _ _
  refine r1 rfl (p_ba runUnderlying55 zeroValue55 sizeOf3 rfl) ?_
  show O _ _ _ _ ((_, .agg #[_, _, _]) :: _) _ _
  refine r1 rfl (p_ba runUnderlying55 zeroValue55 sizeOf3 rfl) ?_
  show O _ _ _ _ ((_, .agg #[_, _, _]) :: _) _ _
  refine r1 rfl (p_ba runUnderlying55 zeroValue55 sizeOf3 rfl) ?_
  show O _ _ _ _ ((_, .agg #[_, _, _]) :: _) _ _
  refine r1 rfl (p_ba runUnderlying55 zeroValue55 sizeOf3 rfl) ?_
  show O _ _ _ _ ((_, .agg #[_, _, _]) :: _) _ _
  refine r1 rfl (p_ba runUnderlying55 zeroValue55 sizeOf3 rfl) ?_
  show O _ _ _ _ ((_, .agg #[_, _, _]) :: _) _ _
  refine r1 rfl (p_ba runUnderlying55 zeroValue55 sizeOf3 rfl) ?_
  show O _ _ _ _ ((_, .agg #[_, _, _]) :: _) _ _
  refine r1 rfl (p_ba runUnderlying55 zeroValue55 sizeOf3 rfl) ?_
  show O _ _ _ _ ((_, .agg #[_, _, _]) :: _) _ _
  refine r1 rfl (p_ba runUnderlying55 zeroValue55 sizeOf3 rfl) ?_
  show O _ _ _ _ ((_, .agg #[_, _, _]) :: _) _ _
  refine r1 rfl (p_ba runUnderlying55 zeroValue55 sizeOf3 rfl) ?_
  show O _ _ _ _ ((_, .agg #[_, _, _]) :: _) _ _
  refine r1 rfl (p_ba runUnderlying55 zeroValue55 sizeOf3 rfl) ?_
  show O _ _ _ _ ((_, .agg #[_, _, _]) :: _) _ _
  refine r1 rfl (p_ba runUnderlying55 zeroValue55 sizeOf3 rfl) ?_
  show O _ _ _ _ ((_, .agg #[_, _, _]) :: _) _ _
  refine r1 rfl (p_ba runUnderlying55 zeroValue55 sizeOf3 rfl) ?_
  show O _ _ _ _ ((_, .agg #[_, _, _]) :: _) _ _
  refine r1 rfl (p_ba runUnderlying55 zeroValue55 sizeOf3 rfl) ?_
  show O _ _ _ _ ((_, .agg #[_, _, _]) :: _) _ _
  refine r1 rfl (p_ba runUnderlying55 zeroValue55 sizeOf3 rfl) ?_
  show O _ _ _ _ ((_, .agg #[_, _, _]) :: _) _ _
  refine r1 rfl (p_ba runUnderlying55 zeroValue55 sizeOf3 rfl) ?_
  show O _ _ _ _ ((_, .agg #[_, _, _]) :: _) _ _
  refine r1 rfl (p_ba runUnderlying55 zeroValue55 sizeOf3 rfl) ?_
  show O _ _ _ _ ((_, .agg #[_, _, _]) :: _) _ _
  refine r1 rfl (p_ba runUnderlying55 zeroValue55 sizeOf3 rfl) ?_
  show O _ _ _ _ ((_, .agg #[_, _, _]) :: _) _ _
  refine r1 rfl (p_ba runUnderlying55 zeroValue55 sizeOf3 rfl) ?_
  show O _ _ _ _ ((_, .agg #[_, _, _]) :: _) _ _
  refine r1 rfl (p_ba runUnderlying55 zeroValue55 sizeOf3 rfl) ?_
  show O _ _ _ _ ((_, .agg #[_, _, _]) :: _) _ _
  refine r1 rfl (p_ba runUnderlying55 zeroValue55 sizeOf3 rfl) ?_
  show O _ _ _ _ ((_, .agg #[_, _, _]) :: _) _ _
  refine r1 rfl (p_ba runUnderlying55 zeroValue55 sizeOf3 rfl) ?_
  show O _ _ _ _ ((_, .agg #[_, _, _]) :: _) _ _
  refine r1 rfl (p_ba runUnderlying55 zeroValue55 sizeOf3 rfl) ?_
  show O _ _ _ _ ((_, .agg #[_, _, _]) :: _) _ _
  refine r1 rfl (p_ba runUnderlying55 zeroValue55 sizeOf3 rfl) ?_
  show O _ _ _ _ ((_, .agg #[_, _, _]) :: _) _ _
  refine r1 rfl (p_ba runUnderlying55 zeroValue55 sizeOf3 rfl) ?_
  show O _ _ _ _ ((_, .agg #[_, _, _]) :: _) _ _
  refine r1 rfl (p_ba runUnderlying55 zeroValue55 sizeOf3 rfl) ?_
  show O _ _ _ _ ((_, .agg #[_, _, _]) :: _) _ _
  refine r1 rfl (p_ba runUnderlying55 zeroValue55 sizeOf3 rfl) ?_
  show O _ _ _ _ ((_, .agg #[_, _, _]) :: _) _ _
  refine r1 rfl (p_ba runUnderlying55 zeroValue55 sizeOf3 rfl) ?_
  show O _ _ _ _ ((_, .agg #[_, _, _]) :: _) _ _
  refine r1 rfl (p_ba runUnderlying55 zeroValue55 sizeOf3 rfl) ?_
  show O _ _ _ _ ((_, .agg #[_, _, _]) :: _) _ _
  refine r1 rfl (p_ba runUnderlying55 zeroValue55 sizeOf3 rfl) ?_
  show O _ _ _ _ ((_, .agg #[_, _, _]) :: _) _ _
  refine r1 rfl (p_ba runUnderlying55 zeroValue55 sizeOf3 rfl) ?_
  show O _ _ _ _ ((_, .agg #[_, _, _]) :: _) _ _
  refine r1 rfl (p_ba runUnderlying55 zeroValue55 sizeOf3 rfl) ?_
  show O _ _ _ _ ((_, .agg #[_, _, _]) :: _) _ _
  refine r1 rfl (p_ba runUnderlying55 zeroValue55 sizeOf3 rfl) ?_
  show O _ _ _ _ ((_, .agg #[_, _, _]) :: _) _ _
  refine r1 rfl (p_ba runUnderlying55 zeroValue55 sizeOf3 rfl) ?_
  show O _ _ _ _ ((_, .agg #[_, _, _]) :: _) _ _
  refine r1 rfl (p_ba runUnderlying55 zeroValue55 sizeOf3 rfl) ?_
  show O _ _ _ _ ((_, .agg #[_, _, _]) :: _) _ _
  refine r1 rfl (p_ba runUnderlying55 zeroValue55 sizeOf3 rfl) ?_
  show O _ _ _ _ ((_, .agg #[_, _, _]) :: _) _ _
  refine r1 rfl (p_ba runUnderlying55 zeroValue55 sizeOf3 rfl) ?_
  show O _ _ _ _ ((_, .agg #[_, _, _]) :: _) _ _
  refine r1 rfl (p_ba runUnderlying55 zeroValue55 sizeOf3 rfl) ?_
  show O _ _ _ _ ((_, .agg #[_, _, _]) :: _) _ _
  refine r1 rfl (p_ba runUnderlying55 zeroValue55 sizeOf3 rfl) ?_
  show O _ _ _ _ ((_, .agg #[_, _, _]) :: _) _ _
  refine r1 rfl (p_ba runUnderlying55 zeroValue55 sizeOf3 rfl) ?_
  show O _ _ _ _ ((_, .agg #[_, _, _]) :: _) _ _
  refine r1 rfl (p_ba runUnderlying55 zeroValue55 sizeOf3 rfl) ?_
  show O _ _ _ _ ((_, .agg #[_, _, _]) :: _) _ _
  refine r1 rfl (p_ba runUnderlying55 zeroValue55 sizeOf3 rfl) ?_
  show O _ _ _ _ ((_, .agg #[_, _, _]) :: _) _ _
  refine r1 rfl (p_ba runUnderlying55 zeroValue55 sizeOf3 rfl) ?_
  show O _ _ _ _ ((_, .agg #[_, _, _]) :: _) _ _
  refine r1 rfl (p_ba runUnderlying55 zeroValue55 sizeOf3 rfl) ?_
  show O _ _ _ _ ((_, .agg #[_, _, _]) :: _) _ _
  refine r1 rfl (p_ba runUnderlying55 zeroValue55 sizeOf3 rfl) ?_
  show O _ _ _ _ ((_, .agg #[_, _, _]) :: _) _ _
  refine r1 rfl (p_ba runUnderlying55 zeroValue55 sizeOf3 rfl) ?_
  show O _ _ _ _ ((_, .agg #[_, _, _]) :: _) _ _
  refine r1 rfl (p_ba runUnderlying55 zeroValue55 sizeOf3 rfl) ?_
  show O _ _ _ _ ((_, .agg #[_, _, _]) :: _) _ _
  refine r1 rfl (p_ba runUnderlying55 zeroValue55 sizeOf3 rfl) ?_
  show O _ _ _ _ ((_, .agg #[_, _, _]) :: _) _ _
  refine r1 rfl (p_ba runUnderlying55 zeroValue55 sizeOf3 rfl) ?_
  show O _ _ _ _ ((_, .agg #[_, _, _]) :: _) _ _
  refine r1 rfl (p_ba runUnderlying55 zeroValue55 sizeOf3 rfl) ?_
  show O _ _ _ _ ((_, .agg #[_, _, _]) :: _) _ _
  refine o1 rfl (s_bsl (ws := fl eSp T38) runUnderlying53 sizeOf55 zeroValue55 rfl (by decide) (by decide) rfl (by kernel_rfl) ?_)
  intro b h1 n1
  refine r1 rfl (p_as rfl) ?_
  refine o_nil ?_
  refine x_ret (fin1 rfl ?_)
  exact ⟨_, rfl, n1.ow (n1.ge (Ext.refl _)) T38 rfl leneSp, n1.ext⟩
def T39 : List Sp := [⟨4352, 4447, 1⟩, ⟨8361, 8361, 3⟩, ⟨8986, 8987, 1⟩, ⟨9001, 9002, 1⟩, ⟨9193, 9196, 1⟩, ⟨9200, 9200, 1⟩, ⟨9203, 9203, 1⟩, ⟨9725, 9726, 1⟩, ⟨9748, 9749, 1⟩, ⟨9800, 9811, 1⟩, ⟨9855, 9855, 1⟩, ⟨9875, 9875, 1⟩, ⟨9889, 9889, 1⟩, ⟨9898, 9899, 1⟩, ⟨9917, 9918, 1⟩, ⟨9924, 9925, 1⟩, ⟨9934, 9934, 1⟩, ⟨9940, 9940, 1⟩, ⟨9962, 9962, 1⟩, ⟨9970, 9971, 1⟩, ⟨9973, 9973, 1⟩, ⟨9978, 9978, 1⟩, ⟨9981, 9981, 1⟩, ⟨9989, 9989, 1⟩, ⟨9994, 9995, 1⟩, ⟨10024, 10024, 1⟩, ⟨10060, 10060, 1⟩, ⟨10062, 10062, 1⟩, ⟨10067, 10069, 1⟩, ⟨10071, 10071, 1⟩, ⟨10133, 10135, 1⟩, ⟨10160, 10160, 1⟩, ⟨10175, 10175, 1⟩, ⟨11035, 11036, 1⟩, ⟨11088, 11088, 1⟩, ⟨11093, 11093, 1⟩, ⟨11904, 11929, 1⟩, ⟨11931, 12019, 1⟩, ⟨12032, 12245, 1⟩, ⟨12272, 12287, 1⟩, ⟨12288, 12288, 2⟩, ⟨12289, 12350, 1⟩, ⟨12353, 12438, 1⟩, ⟨12441, 12543, 1⟩, ⟨12549, 12591, 1⟩, ⟨12593, 12686, 1⟩, ⟨12688, 12771, 1⟩, ⟨12784, 12830, 1⟩, ⟨12832, 12871, 1⟩, ⟨12880, 19903, 1⟩, ⟨19968, 42124, 1⟩, ⟨42128, 42182, 1⟩, ⟨43360, 43388, 1⟩, ⟨44032, 55203, 1⟩, ⟨63744, 64255, 1⟩, ⟨65040, 65049, 1⟩, ⟨65072, 65106, 1⟩, ⟨65108, 65126, 1⟩, ⟨65128, 65131, 1⟩, ⟨65281, 65376, 2⟩, ⟨65377, 65470, 3⟩, ⟨65474, 65479, 3⟩, ⟨65482, 65487, 3⟩, ⟨65490, 65495, 3⟩, ⟨65498, 65500, 3⟩, ⟨65504, 65510, 2⟩, ⟨65512, 65518, 3⟩, ⟨94176, 94180, 1⟩, ⟨94208, 100343, 1⟩, ⟨100352, 101589, 1⟩, ⟨110592, 110882, 1⟩, ⟨126980, 126980, 1⟩, ⟨127183, 127183, 1⟩, ⟨127374, 127374, 1⟩, ⟨127377, 127386, 1⟩, ⟨127488, 127490, 1⟩, ⟨127504, 127547, 1⟩, ⟨127552, 127560, 1⟩, ⟨127568, 127569, 1⟩, ⟨127584, 127589, 1⟩, ⟨127744, 127776, 1⟩, ⟨127789, 127797, 1⟩, ⟨127799, 127868, 1⟩, ⟨127870, 127891, 1⟩, ⟨127904, 127946, 1⟩, ⟨127951, 127955, 1⟩, ⟨127968, 127984, 1⟩, ⟨127988, 127988, 1⟩, ⟨127992, 128062, 1⟩, ⟨128064, 128064, 1⟩, ⟨128066, 128252, 1⟩, ⟨128255, 128317, 1⟩, ⟨128331, 128334, 1⟩, ⟨128336, 128359, 1⟩, ⟨128378, 128378, 1⟩, ⟨128405, 128406, 1⟩, ⟨128420, 128420, 1⟩, ⟨128507, 128591, 1⟩, ⟨128640, 128709, 1⟩, ⟨128716, 128716, 1⟩, ⟨128720, 128722, 1⟩, ⟨128725, 128727, 1⟩, ⟨128732, 128735, 1⟩, ⟨128747, 128748, 1⟩, ⟨128756, 128764, 1⟩, ⟨128992, 129003, 1⟩, ⟨129008, 129008, 1⟩, ⟨129292, 129338, 1⟩, ⟨129340, 129349, 1⟩, ⟨129351, 129535, 1⟩, ⟨129648, 129660, 1⟩, ⟨129664, 129672, 1⟩, ⟨129680, 129725, 1⟩, ⟨129727, 129733, 1⟩, ⟨129742, 129755, 1⟩, ⟨129760, 129768, 1⟩, ⟨129776, 129784, 1⟩, ⟨131072, 196605, 1⟩, ⟨196608, 262141, 1⟩]
set_option maxRecDepth 100000 in
theorem c39 (h : Hp) : C prog 39 [] h fun v h' => ∃ a, v = .slice a T39.length T39.length ∧ Ow h.size 55 3 eSp h' a T39.length T39 ∧ Ext h h' := by
  refine enter func39 rfl ntmps39 results39 rfl rfl ?_
  refine x_seq ?_
  refine x_region ?_
  refine r1 rfl (p_as rfl) ?_
  refine o_nil ?_
  refine x_seq ?_
  refine x_region ?_
  refine r1 rfl (p_ba runUnderlying55 zeroValue55 sizeOf3 rfl) ?_
  show O _ _ _ _ ((_, .agg #[_, _, _]) :: _) _ _
  refine r1 rfl (p_ba runUnderlying55 zeroValue55 sizeOf3 rfl) ?_
  show O _ _ _ _ ((_, .agg #[_, _, _]) :: _) _ _
  refine r1 rfl (p_ba runUnderlying55 zeroValue55 sizeOf3 rfl) ?_
  show O _ _ _ _ ((_, .agg #[_, _, _]) :: _) _ _
  refine r1 rfl (p_ba runUnderlying55 zeroValue55 sizeOf3 rfl) ?_
  show O _ _ _ _ ((_, .agg #[_, _, _]) :: _) _ _
  refine r1 rfl (p_ba runUnderlying55 zeroValue55 sizeOf3 rfl) ?_
  show O _ _ _ _ ((_, .agg #[_, _, _]) :: _) _ _
  refine r1 rfl (p_ba runUnderlying55 zeroValue55 sizeOf3 rfl) ?_
  show O _ _ _ _ ((_, .agg #[_, _, _]) :: _) _ _
  refine r1 rfl (p_ba runUnderlying55 zeroValue55 sizeOf3 rfl) ?_
  show O _ _ _ _ ((_, .agg #[_, _, _]) :: _) _ _
  refine r1 rfl (p_ba runUnderlying55 zeroValue55 sizeOf3 rfl) ?_
  show O _ _ _ _ ((_, .agg #[_, _, _]) :: _) _ _
  refine r1 rfl (p_ba runUnderlying55 zeroValue55 sizeOf3 rfl) ?_
  show O _ _ _ _ ((_, .agg #[_, _, _]) :: _) _ _
  refine r1 rfl (p_ba runUnderlying55 zeroValue55 sizeOf3 rfl) ?_
  show O _ _ _ _ ((_, .agg #[_, _, _]) :: _) _ _
  refine r1 rfl (p_ba runUnderlying55 zeroValue55 sizeOf3 rfl) ?_
  show O _ _ _ _ ((_, .agg #[_, _, _]) :: _) _ _
  refine r1 rfl (p_ba runUnderlying55 zeroValue55 sizeOf3 rfl) ?_
  show O _ _ _ _ ((_, .agg #[_, _, _]) :: _) _ _
  refine r1 rfl (p_ba runUnderlying55 zeroValue55 sizeOf3 rfl) ?_
  show O _ _ _ _ ((_, .agg #[_, _, _]) :: _) _ _
  refine r1 rfl (p_ba runUnderlying55 zeroValue55 sizeOf3 rfl) ?_
  show O _ _ _ _ ((_, .agg #[_, _, _]) :: _) _ _
  refine r1 rfl (p_ba runUnderlying55 zeroValue55 sizeOf3 rfl) ?_
  show O _ _ _ _ ((_, .agg #[_, _, _]) :: _) _ _
  refine r1 rfl (p_ba runUnderlying55 zeroValue55 sizeOf3 rfl) ?_
  show O _ _ _ _ ((_, .agg #[_, _, _]) :: _) _ _
  refine r1 rfl (p_ba runUnderlying55 zeroValue55 sizeOf3 rfl) ?_
  show O _ _ _ _ ((_, .agg #[_, _, _]) :: _) _ _
  refine r1 rfl (p_ba runUnderlying55 zeroValue55 sizeOf3 rfl) ?_
  show O _ _ _ _ ((_, .agg #[_, _, _]) :: _) _ _
  refine r1 rfl (p_ba runUnderlying55 zeroValue55 sizeOf3 rfl) ?_
  show O _ _ _ _ ((_, .agg #[_, _, _]) :: _) _ _
  refine r1 rfl (p_ba runUnderlying55 zeroValue55 sizeOf3 rfl) ?_
  show O _ _ _ _ ((_, .agg #[_, _, _]) :: _) _ _
  refine r1 rfl (p_ba runUnderlying55 zeroValue55 sizeOf3 rfl) ?_
  show O _ _ _ _ ((_, .agg #[_, _, _]) :: _) _ _
  refine r1 rfl (p_ba runUnderlying55 zeroValue55 sizeOf3 rfl) ?_
  show O _ _ _ _ ((_, .agg #[_, _, _]) :: _) _ _
  refine r1 rfl (p_ba runUnderlying55 zeroValue55 sizeOf3 rfl) ?_
  show O _ _ _ _ ((_, .agg #[_, _, _]) :: _) _ _
  refine r1 rfl (p_ba runUnderlying55 zeroValue55 sizeOf3 rfl) ?_
  show O _ _ _ _ ((_, .agg #[_, _, _]) :: _) _ _
  refine r1 rfl (p_ba runUnderlying55 zeroValue55 sizeOf3 rfl) ?_
  show O _ _ _ _ ((_, .agg #[_, _, _]) :: _) _ _
  refine r1 rfl (p_ba runUnderlying55 zeroValue55 sizeOf3 rfl) ?_
  show O _ _ _ _ ((_, .agg #[_, _, _]) :: _) _ _
  refine r1 rfl (p_ba runUnderlying55 zeroValue55 sizeOf3 rfl) ?_
  show O _ _ _ _ ((_, .agg #[_, _, _]) :: _) _ _
  refine r1 rfl (p_ba runUnderlying55 zeroValue55 sizeOf3 rfl) ?_
  show O _ _ _ _ ((_, .agg #[_, _, _]) :: _) _ _
  refine r1 rfl (p_ba runUnderlying55 zeroValue55 sizeOf3 rfl) ?_
  show O _ _ _ _ ((_, .agg #[_, _, _]) :: _) _ _
  refine r1 rfl (p_ba runUnderlying55 zeroValue55 sizeOf3 rfl) ?_
  show O _ _ _ _ ((_, .agg #[_, _, _]) :: _) _ _
  refine r1 rfl (p_ba runUnderlying55 zeroValue55 sizeOf3 rfl) ?_
  show O _ _ _ _ ((_, .agg #[_, _, _]) :: _) _ _
  refine r1 rfl (p_ba runUnderlying55 zeroValue55 sizeOf3 rfl) ?_
  show O _ _ _ _ ((_, .agg #[_, _, _]) :: _) _ _
  refine r1 rfl (p_ba runUnderlying55 zeroValue55 sizeOf3 rfl) ?_
  show O _ _ _ _ ((_, .agg #[_, _, _]) :: _) _ _
  refine r1 rfl (p_ba runUnderlying55 zeroValue55 sizeOf3 rfl) ?_
  show O _ _ _ _ ((_, .agg #[_, _, _]) :: _) _ _
  refine r1 rfl (p_ba runUnderlying55 zeroValue55 sizeOf3 rfl) ?_
  show O _ _ _ _ ((_, .agg #[_, _, _]) :: _) _ _
  refine r1 rfl (p_ba runUnderlying55 zeroValue55 sizeOf3 rfl) ?_
  show O _ _ _ _ ((_, .agg #[_, _, _]) :: _) _ _
  refine r1 rfl (p_ba runUnderlying55 zeroValue55 sizeOf3 rfl) ?_
  show O _ _ _ _ ((_, .agg #[_, _, _]) :: _) _ _
  refine r1 rfl (p_ba runUnderlying55 zeroValue55 sizeOf3 rfl) ?_
  show O _ _ _ _ ((_, .agg #[_, _, _]) :: _) _ _
  refine r1 rfl (p_ba runUnderlying55 zeroValue55 sizeOf3 rfl) ?_
  show O _ _ _ _ ((_, .agg #[_, _, _]) :: _) _ _
  refine r1 rfl (p_ba runUnderlying55 zeroValue55 sizeOf3 rfl) ?_
  show O _ _ _ _ ((_, .agg #[_, _, _]) :: _) _ _
  refine r1 rfl (p_ba runUnderlying55 zeroValue55 sizeOf3 rfl) ?_
  show O _ _ _ _ ((_, .agg #[_, _, _]) :: _) _ _
  refine r1 rfl (p_ba runUnderlying55 zeroValue55 sizeOf3 rfl) ?_
  show O _ _ _ _ ((_, .agg #[_, _, _]) :: _) _ _
  refine r1 rfl (p_ba runUnderlying55 zeroValue55 sizeOf3 rfl) ?_
  show O _ _ _ _ ((_, .agg #[_, _, _]) :: _) _ _
  refine r1 rfl (p_ba runUnderlying55 zeroValue55 sizeOf3 rfl) ?_
  show O _ _ _ _ ((_, .agg #[_, _, _]) :: _) _ _
  refine r1 rfl (p_ba runUnderlying55 zeroValue55 sizeOf3 rfl) ?_
  show O _ _ _ _ ((_, .agg #[_, _, _]) :: _) _ _
  refine r1 rfl (p_ba runUnderlying55 zeroValue55 sizeOf3 rfl) ?_
  show O _ _ _ _ ((_, .agg #[_, _, _]) :: _) _ _
  refine r1 rfl (p_ba runUnderlying55 zeroValue55 sizeOf3 rfl) ?_
  show O _ _ _ _ ((_, .agg #[_, _, _]) :: _) _ _
  refine r1 rfl (p_ba runUnderlying55 zeroValue55 sizeOf3 rfl) ?_
  show O _ _ _ _ ((_, .agg #[_, _, _]) :: _) _ _
  refine r1 rfl (p_ba runUnderlying55 zeroValue55 sizeOf3 rfl) ?_
  show O _ _ _ _ ((_, .agg #[_, _, _]) :: _) _ _
  refine r1 rfl (p_ba runUnderlying55 zeroValue55 sizeOf3 rfl) ?_
  show O _ _ _ _ ((_, .agg #[_, _, _]) :: _) _ _
  refine r1 rfl (p_ba runUnderlying55 zeroValue55 sizeOf3 rfl) ?_
  show O _ _ _ _ ((_, .agg #[_, _, _]) :: _) _ _
  refine r1 rfl (p_ba runUnderlying55 zeroValue55 sizeOf3 rfl) ?_
  show O _ _ _ _ ((_, .agg #[_, _, _]) :: _) _ _
  refine r1 rfl (p_ba runUnderlying55 zeroValue55 sizeOf3 rfl) ?_
  show O _ _ _ _ ((_, .agg #[_, _, _]) :: _) _ _
  refine r1 rfl (p_ba runUnderlying55 zeroValue55 sizeOf3 rfl) ?_
  show O _ _ _ _ ((_, .agg #[_, _, _]) :: _) _ _
  refine r1 rfl (p_ba runUnderlying55 zeroValue55 sizeOf3 rfl) ?_
  show O _ _ _ _ ((_, .agg #[_, _, _]) :: _) _ _
  refine r1 rfl (p_ba runUnderlying55 zeroValue55 sizeOf3 rfl) ?_
  show O _ _ _ _ ((_, .agg #[_, _, _]) :: _) _ _
  refine r1 rfl (p_ba runUnderlying55 zeroValue55 sizeOf3 rfl) ?_
  show O _ _ _ _ ((_, .agg #[_, _, _]) :: _) _ _
  refine r1 rfl (p_ba runUnderlying55 zeroValue55 sizeOf3 rfl) ?_
  show O _ _ _ _ ((_, .agg #[_, _, _]) :: _) _ _
  refine r1 rfl (p_ba runUnderlying55 zeroValue55 sizeOf3 rfl) ?_
  show O _ _ _ _ ((_, .agg #[_, _, _]) :: _) _ _
  refine r1 rfl (p_ba runUnderlying55 zeroValue55 sizeOf3 rfl) ?_
  show O _ _ _ _ ((_, .agg #[_, _, _]) :: _) _ _
  refine r1 rfl (p_ba runUnderlying55 zeroValue55 sizeOf3 rfl) ?_
  show O _ _ _ _ ((_, .agg #[_, _, _]) :: _) _ _
  refine r1 rfl (p_ba runUnderlying55 zeroValue55 sizeOf3 rfl) ?_
  show O _ _ _ _ ((_, .agg #[_, _, _]) :: _) _ _
  refine r1 rfl (p_ba runUnderlying55 zeroValue55 sizeOf3 rfl) ?_
  show O _ _ _ _ ((_, .agg #[_, _, _]) :: _) _ _
  refine r1 rfl (p_ba runUnderlying55 zeroValue55 sizeOf3 rfl) ?_
  show O _ _ _ _ ((_, .agg #[_, _, _]) :: _) _ _
  refine r1 rfl (p_ba runUnderlying55 zeroValue55 sizeOf3 rfl) ?_
  show O _ _ _ _ ((_, .agg #[_, _, _]) :: _) _ _
  refine r1 rfl (p_ba runUnderlying55 zeroValue55 sizeOf3 rfl) ?_
  show O _ _ _ _ ((_, .agg #[_, _, _]) :: _) _ _
  refine r1 rfl (p_ba runUnderlying55 zeroValue55 sizeOf3 rfl) ?_
  show O _ _ _ _ ((_, .agg #[_, _, _]) :: _) _ _
  refine r1 rfl (p_ba runUnderlying55 zeroValue55 sizeOf3 rfl) ?_
  show O _ _ _ _ ((_, .agg #[_, _, _]) :: _) _ _
  refine r1 rfl (p_ba runUnderlying55 zeroValue55 sizeOf3 rfl) ?_
  show O _ _ _ _ ((_, .agg #[_, _, _]) :: _) _ _
  refine r1 rfl (p_ba runUnderlying55 zeroValue55 sizeOf3 rfl) ?_
  show O _ _ _ _ ((_, .agg #[_, _, _]) :: _) _ _
  refine r1 rfl (p_ba runUnderlying55 zeroValue55 sizeOf3 rfl) ?_
  show O _ _ _ _ ((_, .agg #[_, _, _]) :: _) _ _
  refine r1 rfl (p_ba runUnderlying55 zeroValue55 sizeOf3 rfl) ?_
  show O _ _ _ _ ((_, .agg #[_, _, _]) :: _) _ _
  refine r1 rfl (p_ba runUnderlying55 zeroValue55 sizeOf3 rfl) ?_
  show O _ _ _ _ ((_, .agg #[_, _, _]) :: _) _ _
  refine r1 rfl (p_ba runUnderlying55 zeroValue55 sizeOf3 rfl) ?_
  show O _ _ _ _ ((_, .agg #[_, _, _]) :: _) _ _
  refine r1 rfl (p_ba runUnderlying55 zeroValue55 sizeOf3 rfl) ?_
  show O _ _ _ _ ((_, .agg #[_, _, _]) :: _) _ _
  refine r1 rfl (p_ba runUnderlying55 zeroValue55 sizeOf3 rfl) ?_
  show O _ _ _ _ ((_, .agg #[_, _, _]) :: _) _ _
  refine r1 rfl (p_ba runUnderlying55 zeroValue55 sizeOf3 rfl) ?_
  show O _ _ _ _ ((_, .agg #[_, _, _]) :: _) _ _
  refine r1 rfl (p_ba runUnderlying55 zeroValue55 sizeOf3 rfl) ?_
  show O _ _ _ _ ((_, .agg #[_, _, _]) :: _) _ _
  refine r1 rfl (p_ba runUnderlying55 zeroValue55 sizeOf3 rfl) ?_
  show O _ _ _ _ ((_, .agg #[_, _, _]) :: _) _ _
  refine r1 rfl (p_ba runUnderlying55 zeroValue55 sizeOf3 rfl) ?_
  show O _ _ _ _ ((_, .agg #[_, _, _]) :: _) _ _
  refine r1 rfl (p_ba runUnderlying55 zeroValue55 sizeOf3 rfl) ?_
  show O _ _ _ _ ((_, .agg #[_, _, _]) :: _) _ _
  refine r1 rfl (p_ba runUnderlying55 zeroValue55 sizeOf3 rfl) ?_
  show O _ _ _ _ ((_, .agg #[_, _, _]) :: _) _ _
  refine r1 rfl (p_ba runUnderlying55 zeroValue55 sizeOf3 rfl) ?_
  show O _ _ _ _ ((_, .agg #[_, _, _]) :: _) _ _
  refine r1 rfl (p_ba runUnderlying55 zeroValue55 sizeOf3 rfl) ?_
  show O _ _ _ _ ((_, .agg #[_, _, _]) :: _) _ _
  refine r1 rfl (p_ba runUnderlying55 zeroValue55 sizeOf3 rfl) ?_
  show O _ _ _ _ ((_, .agg #[_, _, _]) :: _) _ _
  refine r1 rfl (p_ba runUnderlying55 zeroValue55 sizeOf3 rfl) ?_
  show O _ _ _ _ ((_, .agg #[_, _, _]) :: _) _ _
  refine r1 rfl (p_ba runUnderlying55 zeroValue55 sizeOf3 rfl) ?_
  show O _ _ _ _ ((_, .agg #[_, _, _]) :: _) _ _
  refine r1 rfl (p_ba runUnderlying55 zeroValue55 sizeOf3 rfl) ?_
  show O _ _ _ _ ((_, .agg #[_, _, _]) :: _) _ _
  refine r1 rfl (p_ba runUnderlying55 zeroValue55 sizeOf3 rfl) ?_
  show O _ _ _ _ ((_, .agg #[_, _, _]) :: _) _ _
  refine r1 rfl (p_ba runUnderlying55 zeroValue55 sizeOf3 rfl) ?_
  show O _ _ _ _ ((_, .agg #[_, _, _]) :: _) _ _
  refine r1 rfl (p_ba runUnderlying55 zeroValue55 sizeOf3 rfl) ?_
  show O _ _ _ _ ((_, .agg #[_, _, _]) :: _) _ _
  refine r1 rfl (p_ba runUnderlying55 zeroValue55 sizeOf3 rfl) ?_
  show O _ _ _ _ ((_, .agg #[_, _, _]) :: _) _ _
  refine r1 rfl (p_ba runUnderlying55 zeroValue55 sizeOf3 rfl) ?_
  show O _ _ _ _ ((_, .agg #[_, _, _]) :: _) _ _
  refine r1 rfl (p_ba runUnderlying55 zeroValue55 sizeOf3 rfl) ?_
  show O _ _ _ _ ((_, .agg #[_, _, _]) :: _) _ _
  refine r1 rfl (p_ba runUnderlying55 zeroValue55 sizeOf3 rfl) ?_
  show O _ _ _ _ ((_, .agg #[_, _, _]) :: _) _ _
  refine r1 rfl (p_ba runUnderlying55 zeroValue55 sizeOf3 rfl) ?_
  show O _ _ _ _ ((_, .agg #[_, _, _]) :: _) _ _
  refine r1 rfl (p_ba runUnderlying55 zeroValue55 sizeOf3 rfl) ?_
  show O _ _ _ _ ((_, .agg #[_, _, _]) :: _) _ _
  refine r1 rfl (p_ba runUnderlying55 zeroValue55 sizeOf3 rfl) ?_
  show O _ _ _ _ ((_, .agg #[_, _, _]) :: _) _ _
  refine r1 rfl (p_ba runUnderlying55 zeroValue55 sizeOf3 rfl) ?_
  show O _ _ _ _ ((_, .agg #[_, _, _]) :: _) _ _
  refine r1 rfl (p_ba runUnderlying55 zeroValue55 sizeOf3 rfl) ?_
  show O _ _ _ _ ((_, .agg #[_, _, _]) :: _) _ _
  refine r1 rfl (p_ba runUnderlying55 zeroValue55 sizeOf3 rfl) ?_
  show O _ _ _ _ ((_, .agg #[_, _, _]) :: _) _ _
  refine r1 rfl (p_ba runUnderlying55 zeroValue55 sizeOf3 rfl) ?_
  show O _ _ _ _ ((_, .agg #[_, _, _]) :: _) _ _
  refine r1 rfl (p_ba runUnderlying55 zeroValue55 sizeOf3 rfl) ?_
  show O _ _ _ _ ((_, .agg #[_, _, _]) :: _) _ _
  refine r1 rfl (p_ba runUnderlying55 zeroValue55 sizeOf3 rfl) ?_
  show O _ _ _ _ ((_, .agg #[_, _, _]) :: _) _ _
  refine r1 rfl (p_ba runUnderlying55 zeroValue55 sizeOf3 rfl) ?_
  show O _ _ _ _ ((_, .agg #[_, _, _]) :: _) _ _
  refine r1 rfl (p_ba runUnderlying55 zeroValue55 sizeOf3 rfl) ?_
  show O _ _ _ _ ((_, .agg #[_, _, _]) :: _) _ _
  refine r1 rfl (p_ba runUnderlying55 zeroValue55 sizeOf3 rfl) ?_
  show O _ _ _ _ ((_, .agg #[_, _, _]) :: _) _ _
  refine r1 rfl (p_ba runUnderlying55 zeroValue55 sizeOf3 rfl) ?_
  show O _ _ _ _ ((_, .agg #[_, _, _]) :: _) _ _
  refine r1 rfl (p_ba runUnderlying55 zeroValue55 sizeOf3 rfl) ?_
  show O _ _ _ _ ((_, .agg #[_, _, _]) :: _) _ _
  refine r1 rfl (p_ba runUnderlying55 zeroValue55 sizeOf3 rfl) ?_
  show O _ _ _ _ ((_, .agg #[_, _, _]) :: _) _ _
  refine r1 rfl (p_ba runUnderlying55 zeroValue55 sizeOf3 rfl) ?_
  show O _ _ _ _ ((_, .agg #[_, _, _]) :: _) _ _
  refine r1 rfl (p_ba runUnderlying55 zeroValue55 sizeOf3 rfl) ?_
  show O _ _ _ _ ((_, .agg #[_, _, _]) :: _) _ _
  refine r1 rfl (p_ba runUnderlying55 zeroValue55 sizeOf3 rfl) ?_
  show O _ _ _ _ ((_, .agg #[_, _, _]) :: _) _ _
  refine r1 rfl (p_ba runUnderlying55 zeroValue55 sizeOf3 rfl) ?_
  show O _ _ _ _ ((_, .agg #[_, _, _]) :: _) _ _
  refine r1 rfl (p_ba runUnderlying55 zeroValue55 sizeOf3 rfl) ?_
  show O _ _ _ _ ((_, .agg #[_, _, _]) :: _) _ _
  refine r1 rfl (p_ba runUnderlying55 zeroValue55 sizeOf3 rfl) ?_
  show O _ _ _ _ ((_, .agg #[_, _, _]) :: _) _ _
  refine r1 rfl (p_ba runUnderlying55 zeroValue55 sizeOf3 rfl) ?_
  show O _ _ _ _ ((_, .agg #[_, _, _]) :: _) _ _
  refine r1 rfl (p_ba runUnderlying55 zeroValue55 sizeOf3 rfl) ?_
  show O _ _ _ _ ((_, .agg #[_, _, _]) :: _) _ _
  refine r1 rfl (p_ba runUnderlying55 zeroValue55 sizeOf3 rfl) ?_
  show O _ _ _ _ ((_, .agg #[_, _, _]) :: _) _ _
  refine o1 rfl (s_bsl (ws := fl eSp T39) runUnderlying53 sizeOf55 zeroValue55 rfl (by decide) (by decide) rfl (by kernel_rfl) ?_)
  intro b h1 n1
  refine r1 rfl (p_as rfl) ?_
  refine o_nil ?_
  refine x_ret (fin1 rfl ?_)
  exact ⟨_, rfl, n1.ow (n1.ge (Ext.refl _)) T39 rfl leneSp, n1.ext⟩
def L1 : List (Int × Int) := [(13, 13)]
set_option maxRecDepth 100000 in
theorem c44 (h : Hp) : C prog 44 [] h fun v h' => ∃ a, v = .slice a L1.length L1.length ∧ Ow h.size 88 2 e2 h' a L1.length L1 ∧ Ext h h' := by
  refine enter func44 rfl ntmps44 results44 rfl rfl ?_
  refine x_seq ?_
  refine x_region ?_
  refine r1 rfl (p_as rfl) ?_
  refine o_nil ?_
  refine x_seq ?_
  refine x_region ?_
  refine r1 rfl (p_ba runUnderlying88 zeroValue88 sizeOf3 rfl) ?_
  show O _ _ _ _ ((_, .agg #[_, _]) :: _) _ _
  refine o1 rfl (s_bsl (ws := fl e2 L1) runUnderlying73 sizeOf88 zeroValue88 rfl (by decide) (by decide) rfl (by kernel_rfl) ?_)
  intro b h1 n1
  refine r1 rfl (p_as rfl) ?_
  refine o_nil ?_
  refine x_ret (fin1 rfl ?_)
  exact ⟨_, rfl, n1.ow (n1.ge (Ext.refl _)) L1 rfl lene2, n1.ext⟩
def L2 : List (Int × Int) := [(10, 10)]
set_option maxRecDepth 100000 in
theorem c45 (h : Hp) : C prog 45 [] h fun v h' => ∃ a, v = .slice a L2.length L2.length ∧ Ow h.size 88 2 e2 h' a L2.length L2 ∧ Ext h h' := by
  refine enter func45 rfl ntmps45 results45 rfl rfl ?_
  refine x_seq ?_
  refine x_region ?_
  refine r1 rfl (p_as rfl) ?_
  refine o_nil ?_
  refine x_seq ?_
  refine x_region ?_
  refine r1 rfl (p_ba runUnderlying88 zeroValue88 sizeOf3 rfl) ?_
  show O _ _ _ _ ((_, .agg #[_, _]) :: _) _ _
  refine o1 rfl (s_bsl (ws := fl e2 L2) runUnderlying73 sizeOf88 zeroValue88 rfl (by decide) (by decide) rfl (by kernel_rfl) ?_)
  intro b h1 n1
  refine r1 rfl (p_as rfl) ?_
  refine o_nil ?_
  refine x_ret (fin1 rfl ?_)
  exact ⟨_, rfl, n1.ow (n1.ge (Ext.refl _)) L2 rfl lene2, n1.ext⟩
def L3 : List (Int × Int) := [(0, 9), (11, 12), (14, 31), (127, 159), (173, 173), (1564, 1564), (6158, 6158), (8203, 8203), (8206, 8207), (8232, 8238), (8288, 8303), (65279, 65279), (65520, 65531), (917504, 917535), (917632, 917759), (918000, 921599)]
set_option maxRecDepth 100000 in
theorem c46 (h : Hp) : C prog 46 [] h fun v h' => ∃ a, v = .slice a L3.length L3.length ∧ Ow h.size 88 2 e2 h' a L3.length L3 ∧ Ext h h' := by
  refine enter func46 rfl ntmps46 results46 rfl rfl ?_
  refine x_seq ?_
  refine x_region ?_
  refine r1 rfl (p_as rfl) ?_
  refine o_nil ?_
  refine x_seq ?_
  refine x_region ?_
  refine r1 rfl (p_ba runUnderlying88 zeroValue88 sizeOf3 rfl) ?_
  show O _ _ _ _ ((_, .agg #[_, _]) :: _) _ _
  refine r1 rfl (p_ba runUnderlying88 zeroValue88 sizeOf3 rfl) ?_
  show O _ _ _ _ ((_, .agg #[_, _]) :: _) _ _
  refine r1 rfl (p_ba runUnderlying88 zeroValue88 sizeOf3 rfl) ?_
  show O _ _ _ _ ((_, .agg #[_, _]) :: _) _ _
  refine r1 rfl (p_ba runUnderlying88 zeroValue88 sizeOf3 rfl) ?_
  show O _ _ _ _ ((_, .agg #[_, _]) :: _) _ _
  refine r1 rfl (p_ba runUnderlying88 zeroValue88 sizeOf3 rfl) ?_
  show O _ _ _ _ ((_, .agg #[_, _]) :: _) _ _
  refine r1 rfl (p_ba runUnderlying88 zeroValue88 sizeOf3 rfl) ?_
  show O _ _ _ _ ((_, .agg #[_, _]) :: _) _ _
  refine r1 rfl (p_ba runUnderlying88 zeroValue88 sizeOf3 rfl) ?_
  show O _ _ _ _ ((_, .agg #[_, _]) :: _) _ _
  refine r1 rfl (p_ba runUnderlying88 zeroValue88 sizeOf3 rfl) ?_
  show O _ _ _ _ ((_, .agg #[_, _]) :: _) _ _
  refine r1 rfl (p_ba runUnderlying88 zeroValue88 sizeOf3 rfl) ?_
  show O _ _ _ _ ((_, .agg #[_, _]) :: _) _ _
  refine r1 rfl (p_ba runUnderlying88 zeroValue88 sizeOf3 rfl) ?_
  show O _ _ _ _ ((_, .agg #[_, _]) :: _) _ _
  refine r1 rfl (p_ba runUnderlying88 zeroValue88 sizeOf3 rfl) ?_
  show O _ _ _ _ ((_, .agg #[_, _]) :: _) _ _
  refine r1 rfl (p_ba runUnderlying88 zeroValue88 sizeOf3 rfl) ?_
  show O _ _ _ _ ((_, .agg #[_, _]) :: _) _ _
  refine r1 rfl (p_ba runUnderlying88 zeroValue88 sizeOf3 rfl) ?_
  show O _ _ _ _ ((_, .agg #[_, _]) :: _) _ _
  refine r1 rfl (p_ba runUnderlying88 zeroValue88 sizeOf3 rfl) ?_
  show O _ _ _ _ ((_, .agg #[_, _]) :: _) _ _
  refine r1 rfl (p_ba runUnderlying88 zeroValue88 sizeOf3 rfl) ?_
  show O _ _ _ _ ((_, .agg #[_, _]) :: _) _ _
  refine r1 rfl (p_ba runUnderlying88 zeroValue88 sizeOf3 rfl) ?_
  show O _ _ _ _ ((_, .agg #[_, _]) :: _) _ _
  refine o1 rfl (s_bsl (ws := fl e2 L3) runUnderlying73 sizeOf88 zeroValue88 rfl (by decide) (by decide) rfl (by kernel_rfl) ?_)
  intro b h1 n1
  refine r1 rfl (p_as rfl) ?_
  refine o_nil ?_
  refine x_ret (fin1 rfl ?_)
  exact ⟨_, rfl, n1.ow (n1.ge (Ext.refl _)) L3 rfl lene2, n1.ext⟩
def L4 : List (Int × Int) := [(768, 879), (1155, 1161), (1425, 1469), (1471, 1471), (1473, 1474), (1476, 1477), (1479, 1479), (1552, 1562), (1611, 1631), (1648, 1648), (1750, 1756), (1759, 1764), (1767, 1768), (1770, 1773), (1809, 1809), (1840, 1866), (1958, 1968), (2027, 2035), (2070, 2073), (2075, 2083), (2259, 2273), (2275, 2306), (2362, 2362), (2364, 2364), (2369, 2376), (2381, 2381), (2385, 2391), (2402, 2403), (2433, 2433), (2492, 2492), (2494, 2494), (2497, 2500), (2509, 2509), (2519, 2519), (2530, 2531), (2561, 2562), (2620, 2620), (2625, 2626), (2631, 2632), (2635, 2637), (2748, 2748), (2753, 2757), (2765, 2765), (2876, 2876), (2878, 2879), (2881, 2884), (2893, 2893), (2902, 2903), (3132, 3132), (3134, 3136), (3142, 3144), (3146, 3149), (3276, 3277), (3390, 3390), (3393, 3396), (3405, 3405), (3633, 3633), (3636, 3642), (3655, 3662), (3761, 3761), (3764, 3772), (3864, 3865), (3953, 3966), (4957, 4959), (6832, 6862), (7616, 7679), (8204, 8204), (8400, 8432), (12330, 12335), (12441, 12442), (42607, 42610), (64286, 64286), (65024, 65039), (65056, 65071), (127995, 127999), (917536, 917631), (917760, 917999)]
set_option maxRecDepth 100000 in
theorem c47 (h : Hp) : C prog 47 [] h fun v h' => ∃ a, v = .slice a L4.length L4.length ∧ Ow h.size 88 2 e2 h' a L4.length L4 ∧ Ext h h' := by
  refine enter func47 rfl ntmps47 results47 rfl rfl ?_
  refine x_seq ?_
  refine x_region ?_
  refine r1 rfl (p_as rfl) ?_
  refine o_nil ?_
  refine x_seq ?_
  refine x_region ?_
  refine r1 rfl (p_ba runUnderlying88 zeroValue88 sizeOf3 rfl) ?_
  show O _ _ _ _ ((_, .agg #[_, _]) :: _) _ _
  refine r1 rfl (p_ba runUnderlying88 zeroValue88 sizeOf3 rfl) ?_
  show O _ _ _ _ ((_, .agg #[_, _]) :: _) _ _
  refine r1 rfl (p_ba runUnderlying88 zeroValue88 sizeOf3 rfl) ?_
  show O _ _ _ _ ((_, .agg #[_, _]) :: _) _ _
  refine r1 rfl (p_ba runUnderlying88 zeroValue88 sizeOf3 rfl) ?_
  show O _ _ _ _ ((_, .agg #[_, _]) :: _) _ _
  refine r1 rfl (p_ba runUnderlying88 zeroValue88 sizeOf3 rfl) ?_
  show O _ _ _ _ ((_, .agg #[_, _]) :: _) _ _
  refine r1 rfl (p_ba runUnderlying88 zeroValue88 sizeOf3 rfl) ?_
  show O _ _ _ _ ((_, .agg #[_, _]) :: _) _ _
  refine r1 rfl (p_ba runUnderlying88 zeroValue88 sizeOf3 rfl) ?_
  show O _ _ _ _ ((_, .agg #[_, _]) :: _) _ _
  refine r1 rfl (p_ba runUnderlying88 zeroValue88 sizeOf3 rfl) ?_
  show O _ _ _ _ ((_, .agg #[_, _]) :: _) _ _
  refine r1 rfl (p_ba runUnderlying88 zeroValue88 sizeOf3 rfl) ?_
  show O _ _ _ _ ((_, .agg #[_, _]) :: _) _ _
  refine r1 rfl (p_ba runUnderlying88 zeroValue88 sizeOf3 rfl) ?_
  show O _ _ _ _ ((_, .agg #[_, _]) :: _) _ _
  refine r1 rfl (p_ba runUnderlying88 zeroValue88 sizeOf3 rfl) ?_
  show O _ _ _ _ ((_, .agg #[_, _]) :: _) _ _
  refine r1 rfl (p_ba runUnderlying88 zeroValue88 sizeOf3 rfl) ?_
  show O _ _ _ _ ((_, .agg #[_, _]) :: _) _ _
  refine r1 rfl (p_ba runUnderlying88 zeroValue88 sizeOf3 rfl) ?_
  show O _ _ _ _ ((_, .agg #[_, _]) :: _) _ _
  refine r1 rfl (p_ba runUnderlying88 zeroValue88 sizeOf3 rfl) ?_
  show O _ _ _ _ ((_, .agg #[_, _]) :: _) _ _
  refine r1 rfl (p_ba runUnderlying88 zeroValue88 sizeOf3 rfl) ?_
  show O _ _ _ _ ((_, .agg #[_, _]) :: _) _ _
  refine r1 rfl (p_ba runUnderlying88 zeroValue88 sizeOf3 rfl) ?_
  show O _ _ _ _ ((_, .agg #[_, _]) :: _) _ _
  refine r1 rfl (p_ba runUnderlying88 zeroValue88 sizeOf3 rfl) ?_
  show O _ _ _ _ ((_, .agg #[_, _]) :: _) _ _
  refine r1 rfl (p_ba runUnderlying88 zeroValue88 sizeOf3 rfl) ?_
  show O _ _ _ _ ((_, .agg #[_, _]) :: _) _ _
  refine r1 rfl (p_ba runUnderlying88 zeroValue88 sizeOf3 rfl) ?_
  show O _ _ _ _ ((_, .agg #[_, _]) :: _) _ _
  refine r1 rfl (p_ba runUnderlying88 zeroValue88 sizeOf3 rfl) ?_
  show O _ _ _ _ ((_, .agg #[_, _]) :: _) _ _
  refine r1 rfl (p_ba runUnderlying88 zeroValue88 sizeOf3 rfl) ?_
  show O _ _ _ _ ((_, .agg #[_, _]) :: _) _ _
  refine r1 rfl (p_ba runUnderlying88 zeroValue88 sizeOf3 rfl) ?_
  show O _ _ _ _ ((_, .agg #[_, _]) :: _) _ _
  refine r1 rfl (p_ba runUnderlying88 zeroValue88 sizeOf3 rfl) ?_
  show O _ _ _ _ ((_, .agg #[_, _]) :: _) _ _
  refine r1 rfl (p_ba runUnderlying88 zeroValue88 sizeOf3 rfl) ?_
  show O _ _ _ _ ((_, .agg #[_, _]) :: _) _ _
  refine r1 rfl (p_ba runUnderlying88 zeroValue88 sizeOf3 rfl) ?_
  show O _ _ _ _ ((_, .agg #[_, _]) :: _) _ _
  refine r1 rfl (p_ba runUnderlying88 zeroValue88 sizeOf3 rfl) ?_
  show O _ _ _ _ ((_, .agg #[_, _]) :: _) _ _
  refine r1 rfl (p_ba runUnderlying88 zeroValue88 sizeOf3 rfl) ?_
  show O _ _ _ _ ((_, .agg #[_, _]) :: _) _ _
  refine r1 rfl (p_ba runUnderlying88 zeroValue88 sizeOf3 rfl) ?_
  show O _ _ _ _ ((_, .agg #[_, _]) :: _) _ _
  refine r1 rfl (p_ba runUnderlying88 zeroValue88 sizeOf3 rfl) ?_
  show O _ _ _ _ ((_, .agg #[_, _]) :: _) _ _
  refine r1 rfl (p_ba runUnderlying88 zeroValue88 sizeOf3 rfl) ?_
  show O _ _ _ _ ((_, .agg #[_, _]) :: _) _ _
  refine r1 rfl (p_ba runUnderlying88 zeroValue88 sizeOf3 rfl) ?_
  show O _ _ _ _ ((_, .agg #[_, _]) :: _) _ _
  refine r1 rfl (p_ba runUnderlying88 zeroValue88 sizeOf3 rfl) ?_
  show O _ _ _ _ ((_, .agg #[_, _]) :: _) _ _
  refine r1 rfl (p_ba runUnderlying88 zeroValue88 sizeOf3 rfl) ?_
  show O _ _ _ _ ((_, .agg #[_, _]) :: _) _ _
  refine r1 rfl (p_ba runUnderlying88 zeroValue88 sizeOf3 rfl) ?_
  show O _ _ _ _ ((_, .agg #[_, _]) :: _) _ _
  refine r1 rfl (p_ba runUnderlying88 zeroValue88 sizeOf3 rfl) ?_
  show O _ _ _ _ ((_, .agg #[_, _]) :: _) _ _
  refine r1 rfl (p_ba runUnderlying88 zeroValue88 sizeOf3 rfl) ?_
  show O _ _ _ _ ((_, .agg #[_, _]) :: _) _ _
  refine r1 rfl (p_ba runUnderlying88 zeroValue88 sizeOf3 rfl) ?_
  show O _ _ _ _ ((_, .agg #[_, _]) :: _) _ _
  refine r1 rfl (p_ba runUnderlying88 zeroValue88 sizeOf3 rfl) ?_
  show O _ _ _ _ ((_, .agg #[_, _]) :: _) _ _
  refine r1 rfl (p_ba runUnderlying88 zeroValue88 sizeOf3 rfl) ?_
  show O _ _ _ _ ((_, .agg #[_, _]) :: _) _ _
  refine r1 rfl (p_ba runUnderlying88 zeroValue88 sizeOf3 rfl) ?_
  show O _ _ _ _ ((_, .agg #[_, _]) :: _) _ _
  refine r1 rfl (p_ba runUnderlying88 zeroValue88 sizeOf3 rfl) ?_
  show O _ _ _ _ ((_, .agg #[_, _]) :: _) _ _
  refine r1 rfl (p_ba runUnderlying88 zeroValue88 sizeOf3 rfl) ?_
  show O _ _ _ _ ((_, .agg #[_, _]) :: _) _ _
  refine r1 rfl (p_ba runUnderlying88 zeroValue88 sizeOf3 rfl) ?_
  show O _ _ _ _ ((_, .agg #[_, _]) :: _) _ _
  refine r1 rfl (p_ba runUnderlying88 zeroValue88 sizeOf3 rfl) ?_
  show O _ _ _ _ ((_, .agg #[_, _]) :: _) _ _
  refine r1 rfl (p_ba runUnderlying88 zeroValue88 sizeOf3 rfl) ?_
  show O _ _ _ _ ((_, .agg #[_, _]) :: _) _ _
  refine r1 rfl (p_ba runUnderlying88 zeroValue88 sizeOf3 rfl) ?_
  show O _ _ _ _ ((_, .agg #[_, _]) :: _) _ _
  refine r1 rfl (p_ba runUnderlying88 zeroValue88 sizeOf3 rfl) ?_
  show O _ _ _ _ ((_, .agg #[_, _]) :: _) _ _
  refine r1 rfl (p_ba runUnderlying88 zeroValue88 sizeOf3 rfl) ?_
  show O _ _ _ _ ((_, .agg #[_, _]) :: _) _ _
  refine r1 rfl (p_ba runUnderlying88 zeroValue88 sizeOf3 rfl) ?_
  show O _ _ _ _ ((_, .agg #[_, _]) :: _) _ _
  refine r1 rfl (p_ba runUnderlying88 zeroValue88 sizeOf3 rfl) ?_
  show O _ _ _ _ ((_, .agg #[_, _]) :: _) _ _
  refine r1 rfl (p_ba runUnderlying88 zeroValue88 sizeOf3 rfl) ?_
  show O _ _ _ _ ((_, .agg #[_, _]) :: _) _ _
  refine r1 rfl (p_ba runUnderlying88 zeroValue88 sizeOf3 rfl) ?_
  show O _ _ _ _ ((_, .agg #[_, _]) :: _) _ _
  refine r1 rfl (p_ba runUnderlying88 zeroValue88 sizeOf3 rfl) ?_
  show O _ _ _ _ ((_, .agg #[_, _]) :: _) _ _
  refine r1 rfl (p_ba runUnderlying88 zeroValue88 sizeOf3 rfl) ?_
  show O _ _ _ _ ((_, .agg #[_, _]) :: _) _ _
  refine r1 rfl (p_ba runUnderlying88 zeroValue88 sizeOf3 rfl) ?_
  show O _ _ _ _ ((_, .agg #[_, _]) :: _) _ _
  refine r1 rfl (p_ba runUnderlying88 zeroValue88 sizeOf3 rfl) ?_
  show O _ _ _ _ ((_, .agg #[_, _]) :: _) _ _
  refine r1 rfl (p_ba runUnderlying88 zeroValue88 sizeOf3 rfl) ?_
  show O _ _ _ _ ((_, .agg #[_, _]) :: _) _ _
  refine r1 rfl (p_ba runUnderlying88 zeroValue88 sizeOf3 rfl) ?_
  show O _ _ _ _ ((_, .agg #[_, _]) :: _) _ _
  refine r1 rfl (p_ba runUnderlying88 zeroValue88 sizeOf3 rfl) ?_
  show O _ _ _ _ ((_, .agg #[_, _]) :: _) _ _
  refine r1 rfl (p_ba runUnderlying88 zeroValue88 sizeOf3 rfl) ?_
  show O _ _ _ _ ((_, .agg #[_, _]) :: _) _ _
  refine r1 rfl (p_ba runUnderlying88 zeroValue88 sizeOf3 rfl) ?_
  show O _ _ _ _ ((_, .agg #[_, _]) :: _) _ _
  refine r1 rfl (p_ba runUnderlying88 zeroValue88 sizeOf3 rfl) ?_
  show O _ _ _ _ ((_, .agg #[_, _]) :: _) _ _
  refine r1 rfl (p_ba runUnderlying88 zeroValue88 sizeOf3 rfl) ?_
  show O _ _ _ _ ((_, .agg #[_, _]) :: _) _ _
  refine r1 rfl (p_ba runUnderlying88 zeroValue88 sizeOf3 rfl) ?_
  show O _ _ _ _ ((_, .agg #[_, _]) :: _) _ _
  refine r1 rfl (p_ba runUnderlying88 zeroValue88 sizeOf3 rfl) ?_
  show O _ _ _ _ ((_, .agg #[_, _]) :: _) _ _
  refine r1 rfl (p_ba runUnderlying88 zeroValue88 sizeOf3 rfl) ?_
  show O _ _ _ _ ((_, .agg #[_, _]) :: _) _ _
  refine r1 rfl (p_ba runUnderlying88 zeroValue88 sizeOf3 rfl) ?_
  show O _ _ _ _ ((_, .agg #[_, _]) :: _) _ _
  refine r1 rfl (p_ba runUnderlying88 zeroValue88 sizeOf3 rfl) ?_
  show O _ _ _ _ ((_, .agg #[_, _]) :: _) _ _
  refine r1 rfl (p_ba runUnderlying88 zeroValue88 sizeOf3 rfl) ?_
  show O _ _ _ _ ((_, .agg #[_, _]) :: _) _ _
  refine r1 rfl (p_ba runUnderlying88 zeroValue88 sizeOf3 rfl) ?_
  show O _ _ _ _ ((_, .agg #[_, _]) :: _) _ _
  refine r1 rfl (p_ba runUnderlying88 zeroValue88 sizeOf3 rfl) ?_
  show O _ _ _ _ ((_, .agg #[_, _]) :: _) _ _
  refine r1 rfl (p_ba runUnderlying88 zeroValue88 sizeOf3 rfl) ?_
  show O _ _ _ _ ((_, .agg #[_, _]) :: _) _ _
  refine r1 rfl (p_ba runUnderlying88 zeroValue88 sizeOf3 rfl) ?_
  show O _ _ _ _ ((_, .agg #[_, _]) :: _) _ _
  refine r1 rfl (p_ba runUnderlying88 zeroValue88 sizeOf3 rfl) ?_
  show O _ _ _ _ ((_, .agg #[_, _]) :: _) _ _
  refine r1 rfl (p_ba runUnderlying88 zeroValue88 sizeOf3 rfl) ?_
  show O _ _ _ _ ((_, .agg #[_, _]) :: _) _ _
  refine r1 rfl (p_ba runUnderlying88 zeroValue88 sizeOf3 rfl) ?_
  show O _ _ _ _ ((_, .agg #[_, _]) :: _) _ _
  refine r1 rfl (p_ba runUnderlying88 zeroValue88 sizeOf3 rfl) ?_
  show O _ _ _ _ ((_, .agg #[_, _]) :: _) _ _
  refine o1 rfl (s_bsl (ws := fl e2 L4) runUnderlying73 sizeOf88 zeroValue88 rfl (by decide) (by decide) rfl (by kernel_rfl) ?_)
  intro b h1 n1
  refine r1 rfl (p_as rfl) ?_
  refine o_nil ?_
  refine x_ret (fin1 rfl ?_)
  exact ⟨_, rfl, n1.ow (n1.ge (Ext.refl _)) L4 rfl lene2, n1.ext⟩
def L5 : List (Int × Int) := [(8205, 8205)]
set_option maxRecDepth 100000 in
theorem c48 (h : Hp) : C prog 48 [] h fun v h' => ∃ a, v = .slice a L5.length L5.length ∧ Ow h.size 88 2 e2 h' a L5.length L5 ∧ Ext h h' := by
  refine enter func48 rfl ntmps48 results48 rfl rfl ?_
  refine x_seq ?_
  refine x_region ?_
  refine r1 rfl (p_as rfl) ?_
  refine o_nil ?_
  refine x_seq ?_
  refine x_region ?_
  refine r1 rfl (p_ba runUnderlying88 zeroValue88 sizeOf3 rfl) ?_
  show O _ _ _ _ ((_, .agg #[_, _]) :: _) _ _
  refine o1 rfl (s_bsl (ws := fl e2 L5) runUnderlying73 sizeOf88 zeroValue88 rfl (by decide) (by decide) rfl (by kernel_rfl) ?_)
  intro b h1 n1
  refine r1 rfl (p_as rfl) ?_
  refine o_nil ?_
  refine x_ret (fin1 rfl ?_)
  exact ⟨_, rfl, n1.ow (n1.ge (Ext.refl _)) L5 rfl lene2, n1.ext⟩
def L6 : List (Int × Int) := [(127462, 127487)]
set_option maxRecDepth 100000 in
theorem c49 (h : Hp) : C prog 49 [] h fun v h' => ∃ a, v = .slice a L6.length L6.length ∧ Ow h.size 88 2 e2 h' a L6.length L6 ∧ Ext h h' := by
  refine enter func49 rfl ntmps49 results49 rfl rfl ?_
  refine x_seq ?_
  refine x_region ?_
  refine r1 rfl (p_as rfl) ?_
  refine o_nil ?_
  refine x_seq ?_
  refine x_region ?_
  refine r1 rfl (p_ba runUnderlying88 zeroValue88 sizeOf3 rfl) ?_
  show O _ _ _ _ ((_, .agg #[_, _]) :: _) _ _
  refine o1 rfl (s_bsl (ws := fl e2 L6) runUnderlying73 sizeOf88 zeroValue88 rfl (by decide) (by decide) rfl (by kernel_rfl) ?_)
  intro b h1 n1
  refine r1 rfl (p_as rfl) ?_
  refine o_nil ?_
  refine x_ret (fin1 rfl ?_)
  exact ⟨_, rfl, n1.ow (n1.ge (Ext.refl _)) L6 rfl lene2, n1.ext⟩
def L7 : List (Int × Int) := [(1536, 1541), (1757, 1757), (1807, 1807), (2192, 2193), (2274, 2274), (3406, 3406), (69821, 69821), (69837, 69837)]
set_option maxRecDepth 100000 in
theorem c50 (h : Hp) : C prog 50 [] h fun v h' => ∃ a, v = .slice a L7.length L7.length ∧ Ow h.size 88 2 e2 h' a L7.length L7 ∧ Ext h h' := by
  refine enter func50 rfl ntmps50 results50 rfl rfl ?_
  refine x_seq ?_
  refine x_region ?_
  refine r1 rfl (p_as rfl) ?_
  refine o_nil ?_
  refine x_seq ?_
  refine x_region ?_
  refine r1 rfl (p_ba runUnderlying88 zeroValue88 sizeOf3 rfl) ?_
  show O _ _ _ _ ((_, .agg #[_, _]) :: _) _ _
  refine r1 rfl (p_ba runUnderlying88 zeroValue88 sizeOf3 rfl) ?_
  show O _ _ _ _ ((_, .agg #[_, _]) :: _) _ _
  refine r1 rfl (p_ba runUnderlying88 zeroValue88 sizeOf3 rfl) ?_
  show O _ _ _ _ ((_, .agg #[_, _]) :: _) _ _
  refine r1 rfl (p_ba runUnderlying88 zeroValue88 sizeOf3 rfl) ?_
  show O _ _ _ _ ((_, .agg #[_, _]) :: _) _ _
  refine r1 rfl (p_ba runUnderlying88 zeroValue88 sizeOf3 rfl) ?_
  show O _ _ _ _ ((_, .agg #[_, _]) :: _) _ _
  refine r1 rfl (p_ba runUnderlying88 zeroValue88 sizeOf3 rfl) ?_
  show O _ _ _ _ ((_, .agg #[_, _]) :: _) _ _
  refine r1 rfl (p_ba runUnderlying88 zeroValue88 sizeOf3 rfl) ?_
  show O _ _ _ _ ((_, .agg #[_, _]) :: _) _ _
  refine r1 rfl (p_ba runUnderlying88 zeroValue88 sizeOf3 rfl) ?_
  show O _ _ _ _ ((_, .agg #[_, _]) :: _) _ _
  refine o1 rfl (s_bsl (ws := fl e2 L7) runUnderlying73 sizeOf88 zeroValue88 rfl (by decide) (by decide) rfl (by kernel_rfl) ?_)
  intro b h1 n1
  refine r1 rfl (p_as rfl) ?_
  refine o_nil ?_
  refine x_ret (fin1 rfl ?_)
  exact ⟨_, rfl, n1.ow (n1.ge (Ext.refl _)) L7 rfl lene2, n1.ext⟩
def L8 : List (Int × Int) := [(2307, 2307), (2363, 2363), (2366, 2368), (2377, 2380), (2382, 2383), (2434, 2435), (2495, 2496), (2503, 2504), (2507, 2508), (2563, 2563), (2622, 2624), (2691, 2691), (2750, 2752), (2761, 2761), (2818, 2819), (2880, 2880), (2887, 2888), (3073, 3075), (3137, 3140), (3330, 3331), (3391, 3392), (3398, 3400), (3635, 3635), (3763, 3763), (3902, 3903), (4155, 4156)]
set_option maxRecDepth 100000 in
theorem c51 (h : Hp) : C prog 51 [] h fun v h' => ∃ a, v = .slice a L8.length L8.length ∧ Ow h.size 88 2 e2 h' a L8.length L8 ∧ Ext h h' := by
  refine enter func51 rfl ntmps51 results51 rfl rfl ?_
  refine x_seq ?_
  refine x_region ?_
  refine r1 rfl (p_as rfl) ?_
  refine o_nil ?_
  refine x_seq ?_
  refine x_region ?_
  refine r1 rfl (p_ba runUnderlying88 zeroValue88 sizeOf3 rfl) ?_
  show O _ _ _ _ ((_, .agg #[_, _]) :: _) _ _
  refine r1 rfl (p_ba runUnderlying88 zeroValue88 sizeOf3 rfl) ?_
  show O _ _ _ _ ((_, .agg #[_, _]) :: _) _ _
  refine r1 rfl (p_ba runUnderlying88 zeroValue88 sizeOf3 rfl) ?_
  show O _ _ _ _ ((_, .agg #[_, _]) :: _) _ _
  refine r1 rfl (p_ba runUnderlying88 zeroValue88 sizeOf3 rfl) ?_
  show O _ _ _ _ ((_, .agg #[_, _]) :: _) _ _
  refine r1 rfl (p_ba runUnderlying88 zeroValue88 sizeOf3 rfl) ?_
  show O _ _ _ _ ((_, .agg #[_, _]) :: _) _ _
  refine r1 rfl (p_ba runUnderlying88 zeroValue88 sizeOf3 rfl) ?_
  show O _ _ _ _ ((_, .agg #[_, _]) :: _) _ _
  refine r1 rfl (p_ba runUnderlying88 zeroValue88 sizeOf3 rfl) ?_
  show O _ _ _ _ ((_, .agg #[_, _]) :: _) _ _
  refine r1 rfl (p_ba runUnderlying88 zeroValue88 sizeOf3 rfl) ?_
  show O _ _ _ _ ((_, .agg #[_, _]) :: _) _ _
  refine r1 rfl (p_ba runUnderlying88 zeroValue88 sizeOf3 rfl) ?_
  show O _ _ _ _ ((_, .agg #[_, _]) :: _) _ _
  refine r1 rfl (p_ba runUnderlying88 zeroValue88 sizeOf3 rfl) ?_
  show O _ _ _ _ ((_, .agg #[_, _]) :: _) _ _
  refine r1 rfl (p_ba runUnderlying88 zeroValue88 sizeOf3 rfl) ?_
  show O _ _ _ _ ((_, .agg #[_, _]) :: _) _ _
  refine r1 rfl (p_ba runUnderlying88 zeroValue88 sizeOf3 rfl) ?_
  show O _ _ _ _ ((_, .agg #[_, _]) :: _) _ _
  refine r1 rfl (p_ba runUnderlying88 zeroValue88 sizeOf3 rfl) ?_
  show O _ _ _ _ ((_, .agg #[_, _]) :: _) _ _
  refine r1 rfl (p_ba runUnderlying88 zeroValue88 sizeOf3 rfl) ?_
  show O _ _ _ _ ((_, .agg #[_, _]) :: _) _ _
  refine r1 rfl (p_ba runUnderlying88 zeroValue88 sizeOf3 rfl) ?_
  show O _ _ _ _ ((_, .agg #[_, _]) :: _) _ _
  refine r1 rfl (p_ba runUnderlying88 zeroValue88 sizeOf3 rfl) ?_
  show O _ _ _ _ ((_, .agg #[_, _]) :: _) _ _
  refine r1 rfl (p_ba runUnderlying88 zeroValue88 sizeOf3 rfl) ?_
  show O _ _ _ _ ((_, .agg #[_, _]) :: _) _ _
  refine r1 rfl (p_ba runUnderlying88 zeroValue88 sizeOf3 rfl) ?_
  show O _ _ _ _ ((_, .agg #[_, _]) :: _) _ _
  refine r1 rfl (p_ba runUnderlying88 zeroValue88 sizeOf3 rfl) ?_
  show O _ _ _ _ ((_, .agg #[_, _]) :: _) _ _
  refine r1 rfl (p_ba runUnderlying88 zeroValue88 sizeOf3 rfl) ?_
  show O _ _ _ _ ((_, .agg #[_, _]) :: _) _ _
  refine r1 rfl (p_ba runUnderlying88 zeroValue88 sizeOf3 rfl) ?_
  show O _ _ _ _ ((_, .agg #[_, _]) :: _) _ _
  refine r1 rfl (p_ba runUnderlying88 zeroValue88 sizeOf3 rfl) ?_
  show O _ _ _ _ ((_, .agg #[_, _]) :: _) _ _
  refine r1 rfl (p_ba runUnderlying88 zeroValue88 sizeOf3 rfl) ?_
  show O _ _ _ _ ((_, .agg #[_, _]) :: _) _ _
  refine r1 rfl (p_ba runUnderlying88 zeroValue88 sizeOf3 rfl) ?_
  show O _ _ _ _ ((_, .agg #[_, _]) :: _) _ _
  refine r1 rfl (p_ba runUnderlying88 zeroValue88 sizeOf3 rfl) ?_
  show O _ _ _ _ ((_, .agg #[_, _]) :: _) _ _
  refine r1 rfl (p_ba runUnderlying88 zeroValue88 sizeOf3 rfl) ?_
  show O _ _ _ _ ((_, .agg #[_, _]) :: _) _ _
  refine o1 rfl (s_bsl (ws := fl e2 L8) runUnderlying73 sizeOf88 zeroValue88 rfl (by decide) (by decide) rfl (by kernel_rfl) ?_)
  intro b h1 n1
  refine r1 rfl (p_as rfl) ?_
  refine o_nil ?_
  refine x_ret (fin1 rfl ?_)
  exact ⟨_, rfl, n1.ow (n1.ge (Ext.refl _)) L8 rfl lene2, n1.ext⟩
def LP : List (Int × Int) := [(169, 169), (174, 174), (8252, 8252), (8265, 8265), (8482, 8482), (8505, 8505), (8596, 8601), (8617, 8618), (8986, 8987), (9000, 9000), (9096, 9096), (9167, 9167), (9193, 9203), (9208, 9210), (9410, 9410), (9642, 9643), (9654, 9654), (9664, 9664), (9723, 9726), (9728, 9733), (9735, 9746), (9748, 9861), (9872, 9989), (9992, 10002), (10004, 10004), (10006, 10006), (10013, 10013), (10017, 10017), (10024, 10024), (10035, 10036), (10052, 10052), (10055, 10055), (10060, 10060), (10062, 10062), (10067, 10069), (10071, 10071), (10083, 10087), (10133, 10135), (10145, 10145), (10160, 10160), (10175, 10175), (10548, 10549), (11013, 11015), (11035, 11036), (11088, 11088), (11093, 11093), (12336, 12336), (12349, 12349), (12951, 12951), (12953, 12953), (126976, 127231), (127245, 127247), (127279, 127279), (127340, 127345), (127358, 127359), (127374, 127374), (127377, 127386), (127405, 127461), (127489, 127503), (127514, 127514), (127535, 127535), (127538, 127546), (127548, 127551), (127561, 127994), (128000, 128317), (128326, 128591), (128640, 128767), (128884, 128895), (128981, 129023), (129036, 129039), (129096, 129103), (129114, 129119), (129160, 129167), (129198, 129279), (129292, 129338), (129340, 129349), (129351, 129791), (130048, 131069)]
set_option maxRecDepth 100000 in
theorem c54 (h : Hp) : C prog 54 [] h fun v h' => ∃ a, v = .slice a LP.length LP.length ∧ Ow h.size 88 2 e2 h' a LP.length LP ∧ Ext h h' := by
  refine enter func54 rfl ntmps54 results54 rfl rfl ?_
  refine x_seq ?_
  refine x_region ?_
  refine r1 rfl (p_as rfl) ?_
  refine o_nil ?_
  refine x_seq ?_
  refine x_region ?_
  refine r1 rfl (p_ba runUnderlying88 zeroValue88 sizeOf3 rfl) ?_
  show O _ _ _ _ ((_, .agg #[_, _]) :: _) _ _
  refine r1 rfl (p_ba runUnderlying88 zeroValue88 sizeOf3 rfl) ?_
  show O _ _ _ _ ((_, .agg #[_, _]) :: _) _ _
  refine r1 rfl (p_ba runUnderlying88 zeroValue88 sizeOf3 rfl) ?_
  show O _ _ _ _ ((_, .agg #[_, _]) :: _) _ _
  refine r1 rfl (p_ba runUnderlying88 zeroValue88 sizeOf3 rfl) ?_
  show O _ _ _ _ ((_, .agg #[_, _]) :: _) _ _
  refine r1 rfl (p_ba runUnderlying88 zeroValue88 sizeOf3 rfl) ?_
  show O _ _ _ _ ((_, .agg #[_, _]) :: _) _ _
  refine r1 rfl (p_ba runUnderlying88 zeroValue88 sizeOf3 rfl) ?_
  show O _ _ _ _ ((_, .agg #[_, _]) :: _) _ _
  refine r1 rfl (p_ba runUnderlying88 zeroValue88 sizeOf3 rfl) ?_
  show O _ _ _ _ ((_, .agg #[_, _]) :: _) _ _
  refine r1 rfl (p_ba runUnderlying88 zeroValue88 sizeOf3 rfl) ?_
  show O _ _ _ _ ((_, .agg #[_, _]) :: _) _ _
  refine r1 rfl (p_ba runUnderlying88 zeroValue88 sizeOf3 rfl) ?_
  show O _ _ _ _ ((_, .agg #[_, _]) :: _) _ _
  refine r1 rfl (p_ba runUnderlying88 zeroValue88 sizeOf3 rfl) ?_
  show O _ _ _ _ ((_, .agg #[_, _]) :: _) _ _
  refine r1 rfl (p_ba runUnderlying88 zeroValue88 sizeOf3 rfl) ?_
  show O _ _ _ _ ((_, .agg #[_, _]) :: _) _ _
  refine r1 rfl (p_ba runUnderlying88 zeroValue88 sizeOf3 rfl) ?_
  show O _ _ _ _ ((_, .agg #[_, _]) :: _) _ _
  refine r1 rfl (p_ba runUnderlying88 zeroValue88 sizeOf3 rfl) ?_
  show O _ _ _ _ ((_, .agg #[_, _]) :: _) _ _
  refine r1 rfl (p_ba runUnderlying88 zeroValue88 sizeOf3 rfl) ?_
  show O _ _ _ _ ((_, .agg #[_, _]) :: _) _ _
  refine r1 rfl (p_ba runUnderlying88 zeroValue88 sizeOf3 rfl) ?_
  show O _ _ _ _ ((_, .agg #[_, _]) :: _) _ _
  refine r1 rfl (p_ba runUnderlying88 zeroValue88 sizeOf3 rfl) ?_
  show O _ _ _ _ ((_, .agg #[_, _]) :: _) _ _
  refine r1 rfl (p_ba runUnderlying88 zeroValue88 sizeOf3 rfl) ?_
  show O _ _ _ _ ((_, .agg #[_, _]) :: _) _ _
  refine r1 rfl (p_ba runUnderlying88 zeroValue88 sizeOf3 rfl) ?_
  show O _ _ _ _ ((_, .agg #[_, _]) :: _) _ _
  refine r1 rfl (p_ba runUnderlying88 zeroValue88 sizeOf3 rfl) ?_
  show O _ _ _ _ ((_, .agg #[_, _]) :: _) _ _
  refine r1 rfl (p_ba runUnderlying88 zeroValue88 sizeOf3 rfl) ?_
  show O _ _ _ _ ((_, .agg #[_, _]) :: _) _ _
  refine r1 rfl (p_ba runUnderlying88 zeroValue88 sizeOf3 rfl) ?_
  show O _ _ _ _ ((_, .agg #[_, _]) :: _) _ _
  refine r1 rfl (p_ba runUnderlying88 zeroValue88 sizeOf3 rfl) ?_
  show O _ _ _ _ ((_, .agg #[_, _]) :: _) _ _
  refine r1 rfl (p_ba runUnderlying88 zeroValue88 sizeOf3 rfl) ?_
  show O _ _ _ _ ((_, .agg #[_, _]) :: _) _ _
  refine r1 rfl (p_ba runUnderlying88 zeroValue88 sizeOf3 rfl) ?_
  show O _ _ _ _ ((_, .agg #[_, _]) :: _) _ _
  refine r1 rfl (p_ba runUnderlying88 zeroValue88 sizeOf3 rfl) ?_
  show O _ _ _ _ ((_, .agg #[_, _]) :: _) _ _
  refine r1 rfl (p_ba runUnderlying88 zeroValue88 sizeOf3 rfl) ?_
  show O _ _ _ _ ((_, .agg #[_, _]) :: _) _ _
  refine r1 rfl (p_ba runUnderlying88 zeroValue88 sizeOf3 rfl) ?_
  show O _ _ _ _ ((_, .agg #[_, _]) :: _) _ _
  refine r1 rfl (p_ba runUnderlying88 zeroValue88 sizeOf3 rfl) ?_
  show O _ _ _ _ ((_, .agg #[_, _]) :: _) _ _
  refine r1 rfl (p_ba runUnderlying88 zeroValue88 sizeOf3 rfl) ?_
  show O _ _ _ _ ((_, .agg #[_, _]) :: _) _ _
  refine r1 rfl (p_ba runUnderlying88 zeroValue88 sizeOf3 rfl) ?_
  show O _ _ _ _ ((_, .agg #[_, _]) :: _) _ _
  refine r1 rfl (p_ba runUnderlying88 zeroValue88 sizeOf3 rfl) ?_
  show O _ _ _ _ ((_, .agg #[_, _]) :: _) _ _
  refine r1 rfl (p_ba runUnderlying88 zeroValue88 sizeOf3 rfl) ?_
  show O _ _ _ _ ((_, .agg #[_, _]) :: _) _ _
  refine r1 rfl (p_ba runUnderlying88 zeroValue88 sizeOf3 rfl) ?_
  show O _ _ _ _ ((_, .agg #[_, _]) :: _) _ _
  refine r1 rfl (p_ba runUnderlying88 zeroValue88 sizeOf3 rfl) ?_
  show O _ _ _ _ ((_, .agg #[_, _]) :: _) _ _
  refine r1 rfl (p_ba runUnderlying88 zeroValue88 sizeOf3 rfl) ?_
  show O _ _ _ _ ((_, .agg #[_, _]) :: _) _ _
  refine r1 rfl (p_ba runUnderlying88 zeroValue88 sizeOf3 rfl) ?_
  show O _ _ _ _ ((_, .agg #[_, _]) :: _) _ _
  refine r1 rfl (p_ba runUnderlying88 zeroValue88 sizeOf3 rfl) ?_
  show O _ _ _ _ ((_, .agg #[_, _]) :: _) _ _
  refine r1 rfl (p_ba runUnderlying88 zeroValue88 sizeOf3 rfl) ?_
  show O _ _ _ _ ((_, .agg #[_, _]) :: _) _ _
  refine r1 rfl (p_ba runUnderlying88 zeroValue88 sizeOf3 rfl) ?_
  show O _ _ _ _ ((_, .agg #[_, _]) :: _) _ _
  refine r1 rfl (p_ba runUnderlying88 zeroValue88 sizeOf3 rfl) ?_
  show O _ _ _ _ ((_, .agg #[_, _]) :: _) _ _
  refine r1 rfl (p_ba runUnderlying88 zeroValue88 sizeOf3 rfl) ?_
  show O _ _ _ _ ((_, .agg #[_, _]) :: _) _ _
  refine r1 rfl (p_ba runUnderlying88 zeroValue88 sizeOf3 rfl) ?_
  show O _ _ _ _ ((_, .agg #[_, _]) :: _) _ _
  refine r1 rfl (p_ba runUnderlying88 zeroValue88 sizeOf3 rfl) ?_
  show O _ _ _ _ ((_, .agg #[_, _]) :: _) _ _
  refine r1 rfl (p_ba runUnderlying88 zeroValue88 sizeOf3 rfl) ?_
  show O _ _ _ _ ((_, .agg #[_, _]) :: _) _ _
  refine r1 rfl (p_ba runUnderlying88 zeroValue88 sizeOf3 rfl) ?_
  show O _ _ _ _ ((_, .agg #[_, _]) :: _) _ _
  refine r1 rfl (p_ba runUnderlying88 zeroValue88 sizeOf3 rfl) ?_
  show O _ _ _ _ ((_, .agg #[_, _]) :: _) _ _
  refine r1 rfl (p_ba runUnderlying88 zeroValue88 sizeOf3 rfl) ?_
  show O _ _ _ _ ((_, .agg #[_, _]) :: _) _ _
  refine r1 rfl (p_ba runUnderlying88 zeroValue88 sizeOf3 rfl) ?_
  show O _ _ _ _ ((_, .agg #[_, _]) :: _) _ _
  refine r1 rfl (p_ba runUnderlying88 zeroValue88 sizeOf3 rfl) ?_
  show O _ _ _ _ ((_, .agg #[_, _]) :: _) _ _
  refine r1 rfl (p_ba runUnderlying88 zeroValue88 sizeOf3 rfl) ?_
  show O _ _ _ _ ((_, .agg #[_, _]) :: _) _ _
  refine r1 rfl (p_ba runUnderlying88 zeroValue88 sizeOf3 rfl) ?_
  show O _ _ _ _ ((_, .agg #[_, _]) :: _) _ _
  refine r1 rfl (p_ba runUnderlying88 zeroValue88 sizeOf3 rfl) ?_
  show O _ _ _ _ ((_, .agg #[_, _]) :: _) _ _
  refine r1 rfl (p_ba runUnderlying88 zeroValue88 sizeOf3 rfl) ?_
  show O _ _ _ _ ((_, .agg #[_, _]) :: _) _ _
  refine r1 rfl (p_ba runUnderlying88 zeroValue88 sizeOf3 rfl) ?_
  show O _ _ _ _ ((_, .agg #[_, _]) :: _) _ _
  refine r1 rfl (p_ba runUnderlying88 zeroValue88 sizeOf3 rfl) ?_
  show O _ _ _ _ ((_, .agg #[_, _]) :: _) _ _
  refine r1 rfl (p_ba runUnderlying88 zeroValue88 sizeOf3 rfl) ?_
  show O _ _ _ _ ((_, .agg #[_, _]) :: _) _ _
  refine r1 rfl (p_ba runUnderlying88 zeroValue88 sizeOf3 rfl) ?_
  show O _ _ _ _ ((_, .agg #[_, _]) :: _) _ _
  refine r1 rfl (p_ba runUnderlying88 zeroValue88 sizeOf3 rfl) ?_
  show O _ _ _ _ ((_, .agg #[_, _]) :: _) _ _
  refine r1 rfl (p_ba runUnderlying88 zeroValue88 sizeOf3 rfl) ?_
  show O _ _ _ _ ((_, .agg #[_, _]) :: _) _ _
  refine r1 rfl (p_ba runUnderlying88 zeroValue88 sizeOf3 rfl) ?_
  show O _ _ _ _ ((_, .agg #[_, _]) :: _) _ _
  refine r1 rfl (p_ba runUnderlying88 zeroValue88 sizeOf3 rfl) ?_
  show O _ _ _ _ ((_, .agg #[_, _]) :: _) _ _
  refine r1 rfl (p_ba runUnderlying88 zeroValue88 sizeOf3 rfl) ?_
  show O _ _ _ _ ((_, .agg #[_, _]) :: _) _ _
  refine r1 rfl (p_ba runUnderlying88 zeroValue88 sizeOf3 rfl) ?_
  show O _ _ _ _ ((_, .agg #[_, _]) :: _) _ _
  refine r1 rfl (p_ba runUnderlying88 zeroValue88 sizeOf3 rfl) ?_
  show O _ _ _ _ ((_, .agg #[_, _]) :: _) _ _
  refine r1 rfl (p_ba runUnderlying88 zeroValue88 sizeOf3 rfl) ?_
  show O _ _ _ _ ((_, .agg #[_, _]) :: _) _ _
  refine r1 rfl (p_ba runUnderlying88 zeroValue88 sizeOf3 rfl) ?_
  show O _ _ _ _ ((_, .agg #[_, _]) :: _) _ _
  refine r1 rfl (p_ba runUnderlying88 zeroValue88 sizeOf3 rfl) ?_
  show O _ _ _ _ ((_, .agg #[_, _]) :: _) _ _
  refine r1 rfl (p_ba runUnderlying88 zeroValue88 sizeOf3 rfl) ?_
  show O _ _ _ _ ((_, .agg #[_, _]) :: _) _ _
  refine r1 rfl (p_ba runUnderlying88 zeroValue88 sizeOf3 rfl) ?_
  show O _ _ _ _ ((_, .agg #[_, _]) :: _) _ _
  refine r1 rfl (p_ba runUnderlying88 zeroValue88 sizeOf3 rfl) ?_
  show O _ _ _ _ ((_, .agg #[_, _]) :: _) _ _
  refine r1 rfl (p_ba runUnderlying88 zeroValue88 sizeOf3 rfl) ?_
  show O _ _ _ _ ((_, .agg #[_, _]) :: _) _ _
  refine r1 rfl (p_ba runUnderlying88 zeroValue88 sizeOf3 rfl) ?_
  show O _ _ _ _ ((_, .agg #[_, _]) :: _) _ _
  refine r1 rfl (p_ba runUnderlying88 zeroValue88 sizeOf3 rfl) ?_
  show O _ _ _ _ ((_, .agg #[_, _]) :: _) _ _
  refine r1 rfl (p_ba runUnderlying88 zeroValue88 sizeOf3 rfl) ?_
  show O _ _ _ _ ((_, .agg #[_, _]) :: _) _ _
  refine r1 rfl (p_ba runUnderlying88 zeroValue88 sizeOf3 rfl) ?_
  show O _ _ _ _ ((_, .agg #[_, _]) :: _) _ _
  refine r1 rfl (p_ba runUnderlying88 zeroValue88 sizeOf3 rfl) ?_
  show O _ _ _ _ ((_, .agg #[_, _]) :: _) _ _
  refine r1 rfl (p_ba runUnderlying88 zeroValue88 sizeOf3 rfl) ?_
  show O _ _ _ _ ((_, .agg #[_, _]) :: _) _ _
  refine r1 rfl (p_ba runUnderlying88 zeroValue88 sizeOf3 rfl) ?_
  show O _ _ _ _ ((_, .agg #[_, _]) :: _) _ _
  refine o1 rfl (s_bsl (ws := fl e2 LP) runUnderlying73 sizeOf88 zeroValue88 rfl (by decide) (by decide) rfl (by kernel_rfl) ?_)
  intro b h1 n1
  refine r1 rfl (p_as rfl) ?_
  refine o_nil ?_
  refine x_ret (fin1 rfl ?_)
  exact ⟨_, rfl, n1.ow (n1.ge (Ext.refl _)) LP rfl lene2, n1.ext⟩
def LC1 : List (Int × Int) := [(2325, 2361), (2392, 2399), (2424, 2431), (2453, 2472), (2474, 2480), (2482, 2482), (2486, 2489), (2524, 2525), (2527, 2527), (2544, 2545), (2709, 2728), (2730, 2736), (2738, 2739), (2741, 2745), (2809, 2809), (2837, 2856), (2858, 2864), (2866, 2867), (2869, 2873), (2908, 2909), (2911, 2911), (2929, 2929), (3093, 3112), (3114, 3129), (3160, 3162), (3349, 3386)]
set_option maxRecDepth 100000 in
theorem c55 (h : Hp) : C prog 55 [] h fun v h' => ∃ a, v = .slice a LC1.length LC1.length ∧ Ow h.size 88 2 e2 h' a LC1.length LC1 ∧ Ext h h' := by
  refine enter func55 rfl ntmps55 results55 rfl rfl ?_
  refine x_seq ?_
  refine x_region ?_
  refine r1 rfl (p_as rfl) ?_
  refine o_nil ?_
  refine x_seq ?_
  refine x_region ?_
  refine r1 rfl (p_ba runUnderlying88 zeroValue88 sizeOf3 rfl) ?_
  show O _ _ _ _ ((_, .agg #[_, _]) :: _) _ _
  refine r1 rfl (p_ba runUnderlying88 zeroValue88 sizeOf3 rfl) ?_
  show O _ _ _ _ ((_, .agg #[_, _]) :: _) _ _
  refine r1 rfl (p_ba runUnderlying88 zeroValue88 sizeOf3 rfl) ?_
  show O _ _ _ _ ((_, .agg #[_, _]) :: _) _ _
  refine r1 rfl (p_ba runUnderlying88 zeroValue88 sizeOf3 rfl) ?_
  show O _ _ _ _ ((_, .agg #[_, _]) :: _) _ _
  refine r1 rfl (p_ba runUnderlying88 zeroValue88 sizeOf3 rfl) ?_
  show O _ _ _ _ ((_, .agg #[_, _]) :: _) _ _
  refine r1 rfl (p_ba runUnderlying88 zeroValue88 sizeOf3 rfl) ?_
  show O _ _ _ _ ((_, .agg #[_, _]) :: _) _ _
  refine r1 rfl (p_ba runUnderlying88 zeroValue88 sizeOf3 rfl) ?_
  show O _ _ _ _ ((_, .agg #[_, _]) :: _) _ _
  refine r1 rfl (p_ba runUnderlying88 zeroValue88 sizeOf3 rfl) ?_
  show O _ _ _ _ ((_, .agg #[_, _]) :: _) _ _
  refine r1 rfl (p_ba runUnderlying88 zeroValue88 sizeOf3 rfl) ?_
  show O _ _ _ _ ((_, .agg #[_, _]) :: _) _ _
  refine r1 rfl (p_ba runUnderlying88 zeroValue88 sizeOf3 rfl) ?_
  show O _ _ _ _ ((_, .agg #[_, _]) :: _) _ _
  refine r1 rfl (p_ba runUnderlying88 zeroValue88 sizeOf3 rfl) ?_
  show O _ _ _ _ ((_, .agg #[_, _]) :: _) _ _
  refine r1 rfl (p_ba runUnderlying88 zeroValue88 sizeOf3 rfl) ?_
  show O _ _ _ _ ((_, .agg #[_, _]) :: _) _ _
  refine r1 rfl (p_ba runUnderlying88 zeroValue88 sizeOf3 rfl) ?_
  show O _ _ _ _ ((_, .agg #[_, _]) :: _) _ _
  refine r1 rfl (p_ba runUnderlying88 zeroValue88 sizeOf3 rfl) ?_
  show O _ _ _ _ ((_, .agg #[_, _]) :: _) _ _
  refine r1 rfl (p_ba runUnderlying88 zeroValue88 sizeOf3 rfl) ?_
  show O _ _ _ _ ((_, .agg #[_, _]) :: _) _ _
  refine r1 rfl (p_ba runUnderlying88 zeroValue88 sizeOf3 rfl) ?_
  show O _ _ _ _ ((_, .agg #[_, _]) :: _) _ _
  refine r1 rfl (p_ba runUnderlying88 zeroValue88 sizeOf3 rfl) ?_
  show O _ _ _ _ ((_, .agg #[_, _]) :: _) _ _
  refine r1 rfl (p_ba runUnderlying88 zeroValue88 sizeOf3 rfl) ?_
  show O _ _ _ _ ((_, .agg #[_, _]) :: _) _ _
  refine r1 rfl (p_ba runUnderlying88 zeroValue88 sizeOf3 rfl) ?_
  show O _ _ _ _ ((_, .agg #[_, _]) :: _) _ _
  refine r1 rfl (p_ba runUnderlying88 zeroValue88 sizeOf3 rfl) ?_
  show O _ _ _ _ ((_, .agg #[_, _]) :: _) _ _
  refine r1 rfl (p_ba runUnderlying88 zeroValue88 sizeOf3 rfl) ?_
  show O _ _ _ _ ((_, .agg #[_, _]) :: _) _ _
  refine r1 rfl (p_ba runUnderlying88 zeroValue88 sizeOf3 rfl) ?_
  show O _ _ _ _ ((_, .agg #[_, _]) :: _) _ _
  refine r1 rfl (p_ba runUnderlying88 zeroValue88 sizeOf3 rfl) ?_
  show O _ _ _ _ ((_, .agg #[_, _]) :: _) _ _
  refine r1 rfl (p_ba runUnderlying88 zeroValue88 sizeOf3 rfl) ?_
  show O _ _ _ _ ((_, .agg #[_, _]) :: _) _ _
  refine r1 rfl (p_ba runUnderlying88 zeroValue88 sizeOf3 rfl) ?_
  show O _ _ _ _ ((_, .agg #[_, _]) :: _) _ _
  refine r1 rfl (p_ba runUnderlying88 zeroValue88 sizeOf3 rfl) ?_
  show O _ _ _ _ ((_, .agg #[_, _]) :: _) _ _
  refine o1 rfl (s_bsl (ws := fl e2 LC1) runUnderlying73 sizeOf88 zeroValue88 rfl (by decide) (by decide) rfl (by kernel_rfl) ?_)
  intro b h1 n1
  refine r1 rfl (p_as rfl) ?_
  refine o_nil ?_
  refine x_ret (fin1 rfl ?_)
  exact ⟨_, rfl, n1.ow (n1.ge (Ext.refl _)) LC1 rfl lene2, n1.ext⟩
def LC2 : List (Int × Int) := [(2381, 2381), (2509, 2509), (2765, 2765), (2893, 2893), (3149, 3149), (3405, 3405)]
set_option maxRecDepth 100000 in
theorem c56 (h : Hp) : C prog 56 [] h fun v h' => ∃ a, v = .slice a LC2.length LC2.length ∧ Ow h.size 88 2 e2 h' a LC2.length LC2 ∧ Ext h h' := by
  refine enter func56 rfl ntmps56 results56 rfl rfl ?_
  refine x_seq ?_
  refine x_region ?_
  refine r1 rfl (p_as rfl) ?_
  refine o_nil ?_
  refine x_seq ?_
  refine x_region ?_
  refine r1 rfl (p_ba runUnderlying88 zeroValue88 sizeOf3 rfl) ?_
  show O _ _ _ _ ((_, .agg #[_, _]) :: _) _ _
  refine r1 rfl (p_ba runUnderlying88 zeroValue88 sizeOf3 rfl) ?_
  show O _ _ _ _ ((_, .agg #[_, _]) :: _) _ _
  refine r1 rfl (p_ba runUnderlying88 zeroValue88 sizeOf3 rfl) ?_
  show O _ _ _ _ ((_, .agg #[_, _]) :: _) _ _
  refine r1 rfl (p_ba runUnderlying88 zeroValue88 sizeOf3 rfl) ?_
  show O _ _ _ _ ((_, .agg #[_, _]) :: _) _ _
  refine r1 rfl (p_ba runUnderlying88 zeroValue88 sizeOf3 rfl) ?_
  show O _ _ _ _ ((_, .agg #[_, _]) :: _) _ _
  refine r1 rfl (p_ba runUnderlying88 zeroValue88 sizeOf3 rfl) ?_
  show O _ _ _ _ ((_, .agg #[_, _]) :: _) _ _
  refine o1 rfl (s_bsl (ws := fl e2 LC2) runUnderlying73 sizeOf88 zeroValue88 rfl (by decide) (by decide) rfl (by kernel_rfl) ?_)
  intro b h1 n1
  refine r1 rfl (p_as rfl) ?_
  refine o_nil ?_
  refine x_ret (fin1 rfl ?_)
  exact ⟨_, rfl, n1.ow (n1.ge (Ext.refl _)) LC2 rfl lene2, n1.ext⟩
def LC3 : List (Int × Int) := [(768, 879), (1155, 1159), (1425, 1469), (1552, 1562), (1611, 1631), (2364, 2364), (2385, 2388), (2492, 2492), (2748, 2748), (2876, 2876), (3132, 3132), (6832, 6845), (7616, 7679), (8205, 8205), (8400, 8412), (12330, 12335), (12441, 12442), (65056, 65071)]
set_option maxRecDepth 100000 in
theorem c57 (h : Hp) : C prog 57 [] h fun v h' => ∃ a, v = .slice a LC3.length LC3.length ∧ Ow h.size 88 2 e2 h' a LC3.length LC3 ∧ Ext h h' := by
  refine enter func57 rfl ntmps57 results57 rfl rfl ?_
  refine x_seq ?_
  refine x_region ?_
  refine r1 rfl (p_as rfl) ?_
  refine o_nil ?_
  refine x_seq ?_
  refine x_region ?_
  refine r1 rfl (p_ba runUnderlying88 zeroValue88 sizeOf3 rfl) ?_
  show O _ _ _ _ ((_, .agg #[_, _]) :: _) _ _
  refine r1 rfl (p_ba runUnderlying88 zeroValue88 sizeOf3 rfl) ?_
  show O _ _ _ _ ((_, .agg #[_, _]) :: _) _ _
  refine r1 rfl (p_ba runUnderlying88 zeroValue88 sizeOf3 rfl) ?_
  show O _ _ _ _ ((_, .agg #[_, _]) :: _) _ _
  refine r1 rfl (p_ba runUnderlying88 zeroValue88 sizeOf3 rfl) ?_
  show O _ _ _ _ ((_, .agg #[_, _]) :: _) _ _
  refine r1 rfl (p_ba runUnderlying88 zeroValue88 sizeOf3 rfl) ?_
  show O _ _ _ _ ((_, .agg #[_, _]) :: _) _ _
  refine r1 rfl (p_ba runUnderlying88 zeroValue88 sizeOf3 rfl) ?_
  show O _ _ _ _ ((_, .agg #[_, _]) :: _) _ _
  refine r1 rfl (p_ba runUnderlying88 zeroValue88 sizeOf3 rfl) ?_
  show O _ _ _ _ ((_, .agg #[_, _]) :: _) _ _
  refine r1 rfl (p_ba runUnderlying88 zeroValue88 sizeOf3 rfl) ?_
  show O _ _ _ _ ((_, .agg #[_, _]) :: _) _ _
  refine r1 rfl (p_ba runUnderlying88 zeroValue88 sizeOf3 rfl) ?_
  show O _ _ _ _ ((_, .agg #[_, _]) :: _) _ _
  refine r1 rfl (p_ba runUnderlying88 zeroValue88 sizeOf3 rfl) ?_
  show O _ _ _ _ ((_, .agg #[_, _]) :: _) _ _
  refine r1 rfl (p_ba runUnderlying88 zeroValue88 sizeOf3 rfl) ?_
  show O _ _ _ _ ((_, .agg #[_, _]) :: _) _ _
  refine r1 rfl (p_ba runUnderlying88 zeroValue88 sizeOf3 rfl) ?_
  show O _ _ _ _ ((_, .agg #[_, _]) :: _) _ _
  refine r1 rfl (p_ba runUnderlying88 zeroValue88 sizeOf3 rfl) ?_
  show O _ _ _ _ ((_, .agg #[_, _]) :: _) _ _
  refine r1 rfl (p_ba runUnderlying88 zeroValue88 sizeOf3 rfl) ?_
  show O _ _ _ _ ((_, .agg #[_, _]) :: _) _ _
  refine r1 rfl (p_ba runUnderlying88 zeroValue88 sizeOf3 rfl) ?_
  show O _ _ _ _ ((_, .agg #[_, _]) :: _) _ _
  refine r1 rfl (p_ba runUnderlying88 zeroValue88 sizeOf3 rfl) ?_
  show O _ _ _ _ ((_, .agg #[_, _]) :: _) _ _
  refine r1 rfl (p_ba runUnderlying88 zeroValue88 sizeOf3 rfl) ?_
  show O _ _ _ _ ((_, .agg #[_, _]) :: _) _ _
  refine r1 rfl (p_ba runUnderlying88 zeroValue88 sizeOf3 rfl) ?_
  show O _ _ _ _ ((_, .agg #[_, _]) :: _) _ _
  refine o1 rfl (s_bsl (ws := fl e2 LC3) runUnderlying73 sizeOf88 zeroValue88 rfl (by decide) (by decide) rfl (by kernel_rfl) ?_)
  intro b h1 n1
  refine r1 rfl (p_as rfl) ?_
  refine o_nil ?_
  refine x_ret (fin1 rfl ?_)
  exact ⟨_, rfl, n1.ow (n1.ge (Ext.refl _)) LC3 rfl lene2, n1.ext⟩
def LE1 : List (Int × Int) := [(4352, 4447), (8986, 8987), (9001, 9002), (9193, 9196), (9200, 9200), (9203, 9203), (9725, 9726), (9748, 9749), (9800, 9811), (9855, 9855), (9875, 9875), (9889, 9889), (9898, 9899), (9917, 9918), (9924, 9925), (9934, 9934), (9940, 9940), (9962, 9962), (9970, 9971), (9973, 9973), (9978, 9978), (9981, 9981), (9989, 9989), (9994, 9995), (10024, 10024), (10060, 10060), (10062, 10062), (10067, 10069), (10071, 10071), (10133, 10135), (10160, 10160), (10175, 10175), (11035, 11036), (11088, 11088), (11093, 11093), (11904, 11929), (11931, 12019), (12032, 12245), (12272, 12287), (12289, 12350), (12353, 12438), (12441, 12543), (12549, 12591), (12593, 12686), (12688, 12771), (12784, 12830), (12832, 12871), (12880, 19903), (19968, 42124), (42128, 42182), (43360, 43388), (44032, 55203), (63744, 64255), (65040, 65049), (65072, 65106), (65108, 65126), (65128, 65131), (94176, 94180), (94208, 100343), (100352, 101589), (110592, 110882), (126980, 126980), (127183, 127183), (127374, 127374), (127377, 127386), (127488, 127490), (127504, 127547), (127552, 127560), (127568, 127569), (127584, 127589), (127744, 127776), (127789, 127797), (127799, 127868), (127870, 127891), (127904, 127946), (127951, 127955), (127968, 127984), (127988, 127988), (127992, 128062), (128064, 128064), (128066, 128252), (128255, 128317), (128331, 128334), (128336, 128359), (128378, 128378), (128405, 128406), (128420, 128420), (128507, 128591), (128640, 128709), (128716, 128716), (128720, 128722), (128725, 128727), (128732, 128735), (128747, 128748), (128756, 128764), (128992, 129003), (129008, 129008), (129292, 129338), (129340, 129349), (129351, 129535), (129648, 129660), (129664, 129672), (129680, 129725), (129727, 129733), (129742, 129755), (129760, 129768), (129776, 129784), (131072, 196605), (196608, 262141)]
set_option maxRecDepth 100000 in
theorem c58 (h : Hp) : C prog 58 [] h fun v h' => ∃ a, v = .slice a LE1.length LE1.length ∧ Ow h.size 88 2 e2 h' a LE1.length LE1 ∧ Ext h h' := by
  refine enter func58 rfl ntmps58 results58 rfl rfl ?_
  refine x_seq ?_
  refine x_region ?_
  refine r1 rfl (p_as rfl) ?_
  refine o_nil ?_
  refine x_seq ?_
  refine x_region ?_
  refine r1 rfl (p_ba runUnderlying88 zeroValue88 sizeOf3 rfl) ?_
  show O _ _ _ _ ((_, .agg #[_, _]) :: _) _ _
  refine r1 rfl (p_ba runUnderlying88 zeroValue88 sizeOf3 rfl) ?_
  show O _ _ _ _ ((_, .agg #[_, _]) :: _) _ _
  refine r1 rfl (p_ba runUnderlying88 zeroValue88 sizeOf3 rfl) ?_
  show O _ _ _ _ ((_, .agg #[_, _]) :: _) _ _
  refine r1 rfl (p_ba runUnderlying88 zeroValue88 sizeOf3 rfl) ?_
  show O _ _ _ _ ((_, .agg #[_, _]) :: _) _ _
  refine r1 rfl (p_ba runUnderlying88 zeroValue88 sizeOf3 rfl) ?_
  show O _ _ _ _ ((_, .agg #[_, _]) :: _) _ _
  refine r1 rfl (p_ba runUnderlying88 zeroValue88 sizeOf3 rfl) ?_
  show O _ _ _ _ ((_, .agg #[_, _]) :: _) _ _
  refine r1 rfl (p_ba runUnderlying88 zeroValue88 sizeOf3 rfl) ?_
  show O _ _ _ _ ((_, .agg #[_, _]) :: _) _ _
  refine r1 rfl (p_ba runUnderlying88 zeroValue88 sizeOf3 rfl) ?_
  show O _ _ _ _ ((_, .agg #[_, _]) :: _) _ _
  refine r1 rfl (p_ba runUnderlying88 zeroValue88 sizeOf3 rfl) ?_
  show O _ _ _ _ ((_, .agg #[_, _]) :: _) _ _
  refine r1 rfl (p_ba runUnderlying88 zeroValue88 sizeOf3 rfl) ?_
  show O _ _ _ _ ((_, .agg #[_, _]) :: _) _ _
  refine r1 rfl (p_ba runUnderlying88 zeroValue88 sizeOf3 rfl) ?_
  show O _ _ _ _ ((_, .agg #[_, _]) :: _) _ _
  refine r1 rfl (p_ba runUnderlying88 zeroValue88 sizeOf3 rfl) ?_
  show O _ _ _ _ ((_, .agg #[_, _]) :: _) _ _
  refine r1 rfl (p_ba runUnderlying88 zeroValue88 sizeOf3 rfl) ?_
  show O _ _ _ _ ((_, .agg #[_, _]) :: _) _ _
  refine r1 rfl (p_ba runUnderlying88 zeroValue88 sizeOf3 rfl) ?_
  show O _ _ _ _ ((_, .agg #[_, _]) :: _) _ _
  refine r1 rfl (p_ba runUnderlying88 zeroValue88 sizeOf3 rfl) ?_
  show O _ _ _ _ ((_, .agg #[_, _]) :: _) _ _
  refine r1 rfl (p_ba runUnderlying88 zeroValue88 sizeOf3 rfl) ?_
  show O _ _ _ _ ((_, .agg #[_, _]) :: _) _ _
  refine r1 rfl (p_ba runUnderlying88 zeroValue88 sizeOf3 rfl) ?_
  show O _ _ _ _ ((_, .agg #[_, _]) :: _) _ _
  refine r1 rfl (p_ba runUnderlying88 zeroValue88 sizeOf3 rfl) ?_
  show O _ _ _ _ ((_, .agg #[_, _]) :: _) _ _
  refine r1 rfl (p_ba runUnderlying88 zeroValue88 sizeOf3 rfl) ?_
  show O _ _ _ _ ((_, .agg #[_, _]) :: _) _ _
  refine r1 rfl (p_ba runUnderlying88 zeroValue88 sizeOf3 rfl) ?_
  show O _ _ _ _ ((_, .agg #[_, _]) :: _) _ _
  refine r1 rfl (p_ba runUnderlying88 zeroValue88 sizeOf3 rfl) ?_
  show O _ _ _ _ ((_, .agg #[_, _]) :: _) _ _
  refine r1 rfl (p_ba runUnderlying88 zeroValue88 sizeOf3 rfl) ?_
  show O _ _ _ _ ((_, .agg #[_, _]) :: _) _ _
  refine r1 rfl (p_ba runUnderlying88 zeroValue88 sizeOf3 rfl) ?_
  show O _ _ _ _ ((_, .agg #[_, _]) :: _) _ _
  refine r1 rfl (p_ba runUnderlying88 zeroValue88 sizeOf3 rfl) ?_
  show O _ _ _ _ ((_, .agg #[_, _]) :: _) _ _
  refine r1 rfl (p_ba runUnderlying88 zeroValue88 sizeOf3 rfl) ?_
  show O _ _ _ _ ((_, .agg #[_, _]) :: _) _ _
  refine r1 rfl (p_ba runUnderlying88 zeroValue88 sizeOf3 rfl) ?_
  show O _ _ _ _ ((_, .agg #[_, _]) :: _) _ _
  refine r1 rfl (p_ba runUnderlying88 zeroValue88 sizeOf3 rfl) ?_
  show O _ _ _ _ ((_, .agg #[_, _]) :: _) _ _
  refine r1 rfl (p_ba runUnderlying88 zeroValue88 sizeOf3 rfl) ?_
  show O _ _ _ _ ((_, .agg #[_, _]) :: _) _ _
  refine r1 rfl (p_ba runUnderlying88 zeroValue88 sizeOf3 rfl) ?_
  show O _ _ _ _ ((_, .agg #[_, _]) :: _) _ _
  refine r1 rfl (p_ba runUnderlying88 zeroValue88 sizeOf3 rfl) ?_
  show O _ _ _ _ ((_, .agg #[_, _]) :: _) _ _
  refine r1 rfl (p_ba runUnderlying88 zeroValue88 sizeOf3 rfl) ?_
  show O _ _ _ _ ((_, .agg #[_, _]) :: _) _ _
  refine r1 rfl (p_ba runUnderlying88 zeroValue88 sizeOf3 rfl) ?_
  show O _ _ _ _ ((_, .agg #[_, _]) :: _) _ _
  refine r1 rfl (p_ba runUnderlying88 zeroValue88 sizeOf3 rfl) ?_
  show O _ _ _ _ ((_, .agg #[_, _]) :: _) _ _
  refine r1 rfl (p_ba runUnderlying88 zeroValue88 sizeOf3 rfl) ?_
  show O _ _ _ _ ((_, .agg #[_, _]) :: _) _ _
  refine r1 rfl (p_ba runUnderlying88 zeroValue88 sizeOf3 rfl) ?_
  show O _ _ _ _ ((_, .agg #[_, _]) :: _) _ _
  refine r1 rfl (p_ba runUnderlying88 zeroValue88 sizeOf3 rfl) ?_
  show O _ _ _ _ ((_, .agg #[_, _]) :: _) _ _
  refine r1 rfl (p_ba runUnderlying88 zeroValue88 sizeOf3 rfl) ?_
  show O _ _ _ _ ((_, .agg #[_, _]) :: _) _ _
  refine r1 rfl (p_ba runUnderlying88 zeroValue88 sizeOf3 rfl) ?_
  show O _ _ _ _ ((_, .agg #[_, _]) :: _) _ _
  refine r1 rfl (p_ba runUnderlying88 zeroValue88 sizeOf3 rfl) ?_
  show O _ _ _ _ ((_, .agg #[_, _]) :: _) _ _
  refine r1 rfl (p_ba runUnderlying88 zeroValue88 sizeOf3 rfl) ?_
  show O _ _ _ _ ((_, .agg #[_, _]) :: _) _ _
  refine r1 rfl (p_ba runUnderlying88 zeroValue88 sizeOf3 rfl) ?_
  show O _ _ _ _ ((_, .agg #[_, _]) :: _) _ _
  refine r1 rfl (p_ba runUnderlying88 zeroValue88 sizeOf3 rfl) ?_
  show O _ _ _ _ ((_, .agg #[_, _]) :: _) _ _
  refine r1 rfl (p_ba runUnderlying88 zeroValue88 sizeOf3 rfl) ?_
  show O _ _ _ _ ((_, .agg #[_, _]) :: _) _ _
  refine r1 rfl (p_ba runUnderlying88 zeroValue88 sizeOf3 rfl) ?_
  show O _ _ _ _ ((_, .agg #[_, _]) :: _) _ _
  refine r1 rfl (p_ba runUnderlying88 zeroValue88 sizeOf3 rfl) ?_
  show O _ _ _ _ ((_, .agg #[_, _]) :: _) _ _
  refine r1 rfl (p_ba runUnderlying88 zeroValue88 sizeOf3 rfl) ?_
  show O _ _ _ _ ((_, .agg #[_, _]) :: _) _ _
  refine r1 rfl (p_ba runUnderlying88 zeroValue88 sizeOf3 rfl) ?_
  show O _ _ _ _ ((_, .agg #[_, _]) :: _) _ _
  refine r1 rfl (p_ba runUnderlying88 zeroValue88 sizeOf3 rfl) ?_
  show O _ _ _ _ ((_, .agg #[_, _]) :: _) _ _
  refine r1 rfl (p_ba runUnderlying88 zeroValue88 sizeOf3 rfl) ?_
  show O _ _ _ _ ((_, .agg #[_, _]) :: _) _ _
  refine r1 rfl (p_ba runUnderlying88 zeroValue88 sizeOf3 rfl) ?_
  show O _ _ _ _ ((_, .agg #[_, _]) :: _) _ _
  refine r1 rfl (p_ba runUnderlying88 zeroValue88 sizeOf3 rfl) ?_
  show O _ _ _ _ ((_, .agg #[_, _]) :: _) _ _
  refine r1 rfl (p_ba runUnderlying88 zeroValue88 sizeOf3 rfl) ?_
  show O _ _ _ _ ((_, .agg #[_, _]) :: _) _ _
  refine r1 rfl (p_ba runUnderlying88 zeroValue88 sizeOf3 rfl) ?_
  show O _ _ _ _ ((_, .agg #[_, _]) :: _) _ _
  refine r1 rfl (p_ba runUnderlying88 zeroValue88 sizeOf3 rfl) ?_
  show O _ _ _ _ ((_, .agg #[_, _]) :: _) _ _
  refine r1 rfl (p_ba runUnderlying88 zeroValue88 sizeOf3 rfl) ?_
  show O _ _ _ _ ((_, .agg #[_, _]) :: _) _ _
  refine r1 rfl (p_ba runUnderlying88 zeroValue88 sizeOf3 rfl) ?_
  show O _ _ _ _ ((_, .agg #[_, _]) :: _) _ _
  refine r1 rfl (p_ba runUnderlying88 zeroValue88 sizeOf3 rfl) ?_
  show O _ _ _ _ ((_, .agg #[_, _]) :: _) _ _
  refine r1 rfl (p_ba runUnderlying88 zeroValue88 sizeOf3 rfl) ?_
  show O _ _ _ _ ((_, .agg #[_, _]) :: _) _ _
  refine r1 rfl (p_ba runUnderlying88 zeroValue88 sizeOf3 rfl) ?_
  show O _ _ _ _ ((_, .agg #[_, _]) :: _) _ _
  refine r1 rfl (p_ba runUnderlying88 zeroValue88 sizeOf3 rfl) ?_
  show O _ _ _ _ ((_, .agg #[_, _]) :: _) _ _
  refine r1 rfl (p_ba runUnderlying88 zeroValue88 sizeOf3 rfl) ?_
  show O _ _ _ _ ((_, .agg #[_, _]) :: _) _ _
  refine r1 rfl (p_ba runUnderlying88 zeroValue88 sizeOf3 rfl) ?_
  show O _ _ _ _ ((_, .agg #[_, _]) :: _) _ _
  refine r1 rfl (p_ba runUnderlying88 zeroValue88 sizeOf3 rfl) ?_
  show O _ _ _ _ ((_, .agg #[_, _]) :: _) _ _
  refine r1 rfl (p_ba runUnderlying88 zeroValue88 sizeOf3 rfl) ?_
  show O _ _ _ _ ((_, .agg #[_, _]) :: _) _ _
  refine r1 rfl (p_ba runUnderlying88 zeroValue88 sizeOf3 rfl) ?_
  show O _ _ _ _ ((_, .agg #[_, _]) :: _) _ _
  refine r1 rfl (p_ba runUnderlying88 zeroValue88 sizeOf3 rfl) ?_
  show O _ _ _ _ ((_, .agg #[_, _]) :: _) _ _
  refine r1 rfl (p_ba runUnderlying88 zeroValue88 sizeOf3 rfl) ?_
  show O _ _ _ _ ((_, .agg #[_, _]) :: _) _ _
  refine r1 rfl (p_ba runUnderlying88 zeroValue88 sizeOf3 rfl) ?_
  show O _ _ _ _ ((_, .agg #[_, _]) :: _) _ _
  refine r1 rfl (p_ba runUnderlying88 zeroValue88 sizeOf3 rfl) ?_
  show O _ _ _ _ ((_, .agg #[_, _]) :: _) _ _
  refine r1 rfl (p_ba runUnderlying88 zeroValue88 sizeOf3 rfl) ?_
  show O _ _ _ _ ((_, .agg #[_, _]) :: _) _ _
  refine r1 rfl (p_ba runUnderlying88 zeroValue88 sizeOf3 rfl) ?_
  show O _ _ _ _ ((_, .agg #[_, _]) :: _) _ _
  refine r1 rfl (p_ba runUnderlying88 zeroValue88 sizeOf3 rfl) ?_
  show O _ _ _ _ ((_, .agg #[_, _]) :: _) _ _
  refine r1 rfl (p_ba runUnderlying88 zeroValue88 sizeOf3 rfl) ?_
  show O _ _ _ _ ((_, .agg #[_, _]) :: _) _ _
  refine r1 rfl (p_ba runUnderlying88 zeroValue88 sizeOf3 rfl) ?_
  show O _ _ _ _ ((_, .agg #[_, _]) :: _) _ _
  refine r1 rfl (p_ba runUnderlying88 zeroValue88 sizeOf3 rfl) ?_
  show O _ _ _ _ ((_, .agg #[_, _]) :: _) _ _
  refine r1 rfl (p_ba runUnderlying88 zeroValue88 sizeOf3 rfl) ?_
  show O _ _ _ _ ((_, .agg #[_, _]) :: _) _ _
  refine r1 rfl (p_ba runUnderlying88 zeroValue88 sizeOf3 rfl) ?_
  show O _ _ _ _ ((_, .agg #[_, _]) :: _) _ _
  refine r1 rfl (p_ba runUnderlying88 zeroValue88 sizeOf3 rfl) ?_
  show O _ _ _ _ ((_, .agg #[_, _]) :: _) _ _
  refine r1 rfl (p_ba runUnderlying88 zeroValue88 sizeOf3 rfl) ?_
  show O _ _ _ _ ((_, .agg #[_, _]) :: _) _ _
  refine r1 rfl (p_ba runUnderlying88 zeroValue88 sizeOf3 rfl) ?_
  show O _ _ _ _ ((_, .agg #[_, _]) :: _) _ _
  refine r1 rfl (p_ba runUnderlying88 zeroValue88 sizeOf3 rfl) ?_
  show O _ _ _ _ ((_, .agg #[_, _]) :: _) _ _
  refine r1 rfl (p_ba runUnderlying88 zeroValue88 sizeOf3 rfl) ?_
  show O _ _ _ _ ((_, .agg #[_, _]) :: _) _ _
  refine r1 rfl (p_ba runUnderlying88 zeroValue88 sizeOf3 rfl) ?_
  show O _ _ _ _ ((_, .agg #[_, _]) :: _) _ _
  refine r1 rfl (p_ba runUnderlying88 zeroValue88 sizeOf3 rfl) ?_
  show O _ _ _ _ ((_, .agg #[_, _]) :: _) _ _
  refine r1 rfl (p_ba runUnderlying88 zeroValue88 sizeOf3 rfl) ?_
  show O _ _ _ _ ((_, .agg #[_, _]) :: _) _ _
  refine r1 rfl (p_ba runUnderlying88 zeroValue88 sizeOf3 rfl) ?_
  show O _ _ _ _ ((_, .agg #[_, _]) :: _) _ _
  refine r1 rfl (p_ba runUnderlying88 zeroValue88 sizeOf3 rfl) ?_
  show O _ _ _ _ ((_, .agg #[_, _]) :: _) _ _
  refine r1 rfl (p_ba runUnderlying88 zeroValue88 sizeOf3 rfl) ?_
  show O _ _ _ _ ((_, .agg #[_, _]) :: _) _ _
  refine r1 rfl (p_ba runUnderlying88 zeroValue88 sizeOf3 rfl) ?_
  show O _ _ _ _ ((_, .agg #[_, _]) :: _) _ _
  refine r1 rfl (p_ba runUnderlying88 zeroValue88 sizeOf3 rfl) ?_
  show O _ _ _ _ ((_, .agg #[_, _]) :: _) _ _
  refine r1 rfl (p_ba runUnderlying88 zeroValue88 sizeOf3 rfl) ?_
  show O _ _ _ _ ((_, .agg #[_, _]) :: _) _ _
  refine r1 rfl (p_ba runUnderlying88 zeroValue88 sizeOf3 rfl) ?_
  show O _ _ _ _ ((_, .agg #[_, _]) :: _) _ _
  refine r1 rfl (p_ba runUnderlying88 zeroValue88 sizeOf3 rfl) ?_
  show O _ _ _ _ ((_, .agg #[_, _]) :: _) _ _
  refine r1 rfl (p_ba runUnderlying88 zeroValue88 sizeOf3 rfl) ?_
  show O _ _ _ _ ((_, .agg #[_, _]) :: _) _ _
  refine r1 rfl (p_ba runUnderlying88 zeroValue88 sizeOf3 rfl) ?_
  show O _ _ _ _ ((_, .agg #[_, _]) :: _) _ _
  refine r1 rfl (p_ba runUnderlying88 zeroValue88 sizeOf3 rfl) ?_
  show O _ _ _ _ ((_, .agg #[_, _]) :: _) _ _
  refine r1 rfl (p_ba runUnderlying88 zeroValue88 sizeOf3 rfl) ?_
  show O _ _ _ _ ((_, .agg #[_, _]) :: _) _ _
  refine r1 rfl (p_ba runUnderlying88 zeroValue88 sizeOf3 rfl) ?_
  show O _ _ _ _ ((_, .agg #[_, _]) :: _) _ _
  refine r1 rfl (p_ba runUnderlying88 zeroValue88 sizeOf3 rfl) ?_
  show O _ _ _ _ ((_, .agg #[_, _]) :: _) _ _
  refine r1 rfl (p_ba runUnderlying88 zeroValue88 sizeOf3 rfl) ?_
  show O _ _ _ _ ((_, .agg #[_, _]) :: _) _ _
  refine r1 rfl (p_ba runUnderlying88 zeroValue88 sizeOf3 rfl) ?_
  show O _ _ _ _ ((_, .agg #[_, _]) :: _) _ _
  refine r1 rfl (p_ba runUnderlying88 zeroValue88 sizeOf3 rfl) ?_
  show O _ _ _ _ ((_, .agg #[_, _]) :: _) _ _
  refine r1 rfl (p_ba runUnderlying88 zeroValue88 sizeOf3 rfl) ?_
  show O _ _ _ _ ((_, .agg #[_, _]) :: _) _ _
  refine r1 rfl (p_ba runUnderlying88 zeroValue88 sizeOf3 rfl) ?_
  show O _ _ _ _ ((_, .agg #[_, _]) :: _) _ _
  refine r1 rfl (p_ba runUnderlying88 zeroValue88 sizeOf3 rfl) ?_
  show O _ _ _ _ ((_, .agg #[_, _]) :: _) _ _
  refine r1 rfl (p_ba runUnderlying88 zeroValue88 sizeOf3 rfl) ?_
  show O _ _ _ _ ((_, .agg #[_, _]) :: _) _ _
  refine r1 rfl (p_ba runUnderlying88 zeroValue88 sizeOf3 rfl) ?_
  show O _ _ _ _ ((_, .agg #[_, _]) :: _) _ _
  refine r1 rfl (p_ba runUnderlying88 zeroValue88 sizeOf3 rfl) ?_
  show O _ _ _ _ ((_, .agg #[_, _]) :: _) _ _
  refine r1 rfl (p_ba runUnderlying88 zeroValue88 sizeOf3 rfl) ?_
  show O _ _ _ _ ((_, .agg #[_, _]) :: _) _ _
  refine o1 rfl (s_bsl (ws := fl e2 LE1) runUnderlying73 sizeOf88 zeroValue88 rfl (by decide) (by decide) rfl (by kernel_rfl) ?_)
  intro b h1 n1
  refine r1 rfl (p_as rfl) ?_
  refine o_nil ?_
  refine x_ret (fin1 rfl ?_)
  exact ⟨_, rfl, n1.ow (n1.ge (Ext.refl _)) LE1 rfl lene2, n1.ext⟩
def LE2 : List (Int × Int) := [(12288, 12288), (65281, 65376), (65504, 65510)]
set_option maxRecDepth 100000 in
theorem c59 (h : Hp) : C prog 59 [] h fun v h' => ∃ a, v = .slice a LE2.length LE2.length ∧ Ow h.size 88 2 e2 h' a LE2.length LE2 ∧ Ext h h' := by
  refine enter func59 rfl ntmps59 results59 rfl rfl ?_
  refine x_seq ?_
  refine x_region ?_
  refine r1 rfl (p_as rfl) ?_
  refine o_nil ?_
  refine x_seq ?_
  refine x_region ?_
  refine r1 rfl (p_ba runUnderlying88 zeroValue88 sizeOf3 rfl) ?_
  show O _ _ _ _ ((_, .agg #[_, _]) :: _) _ _
  refine r1 rfl (p_ba runUnderlying88 zeroValue88 sizeOf3 rfl) ?_
  show O _ _ _ _ ((_, .agg #[_, _]) :: _) _ _
  refine r1 rfl (p_ba runUnderlying88 zeroValue88 sizeOf3 rfl) ?_
  show O _ _ _ _ ((_, .agg #[_, _]) :: _) _ _
  refine o1 rfl (s_bsl (ws := fl e2 LE2) runUnderlying73 sizeOf88 zeroValue88 rfl (by decide) (by decide) rfl (by kernel_rfl) ?_)
  intro b h1 n1
  refine r1 rfl (p_as rfl) ?_
  refine o_nil ?_
  refine x_ret (fin1 rfl ?_)
  exact ⟨_, rfl, n1.ow (n1.ge (Ext.refl _)) LE2 rfl lene2, n1.ext⟩
def LE3 : List (Int × Int) := [(8361, 8361), (65377, 65470), (65474, 65479), (65482, 65487), (65490, 65495), (65498, 65500), (65512, 65518)]
set_option maxRecDepth 100000 in
theorem c60 (h : Hp) : C prog 60 [] h fun v h' => ∃ a, v = .slice a LE3.length LE3.length ∧ Ow h.size 88 2 e2 h' a LE3.length LE3 ∧ Ext h h' := by
  refine enter func60 rfl ntmps60 results60 rfl rfl ?_
  refine x_seq ?_
  refine x_region ?_
  refine r1 rfl (p_as rfl) ?_
  refine o_nil ?_
  refine x_seq ?_
  refine x_region ?_
  refine r1 rfl (p_ba runUnderlying88 zeroValue88 sizeOf3 rfl) ?_
  show O _ _ _ _ ((_, .agg #[_, _]) :: _) _ _
  refine r1 rfl (p_ba runUnderlying88 zeroValue88 sizeOf3 rfl) ?_
  show O _ _ _ _ ((_, .agg #[_, _]) :: _) _ _
  refine r1 rfl (p_ba runUnderlying88 zeroValue88 sizeOf3 rfl) ?_
  show O _ _ _ _ ((_, .agg #[_, _]) :: _) _ _
  refine r1 rfl (p_ba runUnderlying88 zeroValue88 sizeOf3 rfl) ?_
  show O _ _ _ _ ((_, .agg #[_, _]) :: _) _ _
  refine r1 rfl (p_ba runUnderlying88 zeroValue88 sizeOf3 rfl) ?_
  show O _ _ _ _ ((_, .agg #[_, _]) :: _) _ _
  refine r1 rfl (p_ba runUnderlying88 zeroValue88 sizeOf3 rfl) ?_
  show O _ _ _ _ ((_, .agg #[_, _]) :: _) _ _
  refine r1 rfl (p_ba runUnderlying88 zeroValue88 sizeOf3 rfl) ?_
  show O _ _ _ _ ((_, .agg #[_, _]) :: _) _ _
  refine o1 rfl (s_bsl (ws := fl e2 LE3) runUnderlying73 sizeOf88 zeroValue88 rfl (by decide) (by decide) rfl (by kernel_rfl) ?_)
  intro b h1 n1
  refine r1 rfl (p_as rfl) ?_
  refine o_nil ?_
  refine x_ret (fin1 rfl ?_)
  exact ⟨_, rfl, n1.ow (n1.ge (Ext.refl _)) LE3 rfl lene2, n1.ext⟩
end Go.Proofs
