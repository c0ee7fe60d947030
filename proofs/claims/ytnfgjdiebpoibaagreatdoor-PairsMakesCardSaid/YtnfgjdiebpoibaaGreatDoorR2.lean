/-
  An own text of this claim.
-/
import Derived.Test.YtnfgjdiebpoibaaGreatDoorR1
namespace Go.Sx.Tz
open Go.Proofs Go.Sx.O
set_option maxRecDepth 100000
set_option maxHeartbeats 4000000
set_option linter.unusedSimpArgs false
theorem zer {d : List UInt8} {r : List Int × Bool} (h : zbr d = some r) : Ret E 154 [SV.str d] (SV.tup [zf 1 (SV.int .i64) r.fst, .bool r.snd]) := by
 refine rg [0] Tryz.func154 h fun h => ?_
 refine zr (fun (a : Unit) => [(4, .osl (2) 1), (3, .fls), (2, .osl 0 1)]) (fun a => [(2, .row true 1 []), (0, .row true 1 [])]) 3 h (fun a h => ?_) (fun i c e h => ?_)
 cases h; exact .r
 refine zo (fun (b : Unit) => [(5, .int .i64 0), (4, .osl (2) 1), (3, .fls), (2, .osl 0 1), (0, .str d)]) (fun b => [(2, .row true 1 []), (0, .row true 1 [])]) 4 h zd (fun b f j g h => ?_)
 refine za h ?_ ?_ <;> intro _ h
 exact uv h
 exact c (()) h zd
theorem zDn {m : TK} {r : Int} (h : zl0 m = some r) : Ret E 134 [zZ m] (SV.int .i64 r) := by
 refine rg [] Tryz.func134 h fun h => ?_
 refine zN h (fun a h => ?_) (fun a h => ?_)
 cases h; exact .r
 refine zN h (fun b h => ?_) (fun b h => ?_)
 cases h; exact .r
 refine za h ?_ ?_ <;> intro _ h
 refine zN h (fun c h => ?_) (fun c h => ?_)
 cases h; exact .r
 refine za h ?_ ?_ <;> intro _ h
 refine za h ?_ ?_ <;> intro _ h
 refine za h ?_ ?_ <;> intro _ h
 cases h; exact .r
 refine za h ?_ ?_ <;> intro _ h
 refine zb h (fun _ => zeu) fun n h => za h (fun _ h => ?_) fun _ h => ?_
 cases h; exact .r
 refine za h (fun d h => ?_) (fun d h => ?_)
 cases h; exact .r
 cases h; exact .r
 refine za h (fun e h => ?_) (fun e h => ?_)
 refine zb h (fun _ => zer) fun o h => za h (fun _ h => ?_) fun _ h => ?_
 cases h; exact .r
 refine za h ?_ ?_ <;> intro _ h
 cases h; exact .r
 cases h; exact .r
 cases h; exact .r
 refine za h ?_ ?_ <;> intro _ h
 refine zb h (fun _ => zeu) fun _ h => za h (fun _ h => ?_) fun _ h => ?_
 cases h; exact .r
 refine za h ?_ ?_ <;> intro _ h
 cases h; exact .r
 cases h; exact .r
 refine za h ?_ ?_ <;> intro _ h
 refine zb h (fun _ => zer) fun p h => za h (fun _ h => ?_) fun _ h => ?_
 cases h; exact .r
 refine za h ?_ ?_ <;> intro _ h
 cases h; exact .r
 cases h; exact .r
 cases h; exact .r
 refine za h ?_ ?_ <;> intro _ h
 refine zb h (fun _ => zeu) fun _ h => za h (fun _ h => ?_) fun _ h => ?_
 cases h; exact .r
 refine za h ?_ ?_ <;> intro _ h
 cases h; exact .r
 cases h; exact .r
 refine za h ?_ ?_ <;> intro _ h
 refine zb h (fun _ => zer) fun _ h => za h (fun _ h => ?_) fun _ h => ?_
 cases h; exact .r
 refine za h ?_ ?_ <;> intro _ h
 cases h; exact .r
 cases h; exact .r
 cases h; exact .r
 refine za h ?_ ?_ <;> intro _ h
 refine za h ?_ ?_ <;> intro _ h
 refine za h (fun f h => ?_) (fun f h => ?_)
 cases h; exact .r
 refine za h ?_ ?_ <;> intro _ h
 refine zb h (fun _ => zeu) fun _ h => za h (fun g h => ?_) (fun g h => ?_)
 cases h; exact .r
 refine za h ?_ ?_ <;> intro _ h
 cases h; exact .r
 cases h; exact .r
 refine za h ?_ ?_ <;> intro _ h
 refine zb h (fun _ => zer) fun _ h => za h (fun _ h => ?_) fun _ h => ?_
 cases h; exact .r
 refine za h ?_ ?_ <;> intro _ h
 cases h; exact .r
 cases h; exact .r
 cases h; exact .r
 refine za h ?_ ?_ <;> intro _ h
 refine zb h (fun _ => zeu) fun q h => za h (fun i h => ?_) (fun i h => ?_)
 cases h; exact .r
 refine za h (fun j h => ?_) (fun j h => ?_)
 cases h; exact .r
 cases h; exact .r
 refine za h ?_ ?_ <;> intro _ h
 refine zb h (fun _ => zer) fun _ h => za h (fun _ h => ?_) fun _ h => ?_
 cases h; exact .r
 refine za h (fun k h => ?_) (fun k h => ?_)
 cases h; exact .r
 cases h; exact .r
 cases h; exact .r
 refine za h ?_ ?_ <;> intro _ h
 refine zb h (fun _ => zeu) fun _ h => za h (fun _ h => ?_) fun _ h => ?_
 cases h; exact .r
 refine za h ?_ ?_ <;> intro _ h
 cases h; exact .r
 cases h; exact .r
 refine za h (fun l h => ?_) (fun l h => ?_)
 refine zb h (fun _ => zer) fun _ h => za h (fun _ h => ?_) fun _ h => ?_
 cases h; exact .r
 refine za h ?_ ?_ <;> intro _ h
 cases h; exact .r
 cases h; exact .r
 cases h; exact .r
theorem zCx {e : List UInt8} {r : Bool} (h : zmf e = some r) : Ret E 135 [SV.str e] (SV.bool r) := by
 refine rg [0] Tryz.func135 h fun h => ?_
 refine zr (fun (f : Unit) => [(2, .fls)]) (fun _ => []) 1 h (fun f h => ?_) (fun j b c h => ?_)
 cases h; exact .r
 refine zo (fun (a : Int) => [(4, .int .i64 a), (3, .osl (1) 1), (2, .fls), (0, .str e)]) (fun a => [(1, .row true 1 [SV.str (ByteArray.mk #[118, 97, 114]).data.toList, .str (ByteArray.mk #[100, 101, 102]).data.toList, .str (ByteArray.mk #[111, 117, 116]).data.toList, .str (ByteArray.mk #[105, 102]).data.toList, .str (ByteArray.mk #[101, 108, 115, 101]).data.toList, .str (ByteArray.mk #[119, 104, 105, 108, 101]).data.toList, .str (ByteArray.mk #[101, 110, 100]).data.toList, .str (ByteArray.mk #[114, 101, 108, 101, 97, 115, 101]).data.toList, .str (ByteArray.mk #[105, 110, 116]).data.toList, .str (ByteArray.mk #[99, 104, 97, 114]).data.toList])]) 4 h zd (fun a i k d h => ?_)
 refine za h ?_ ?_ <;> intro _ h
 refine zk h fun _ h => zm SV.str h (by first | (simp only [zf, zn, List.map_append, List.map_take, List.map_drop, List.map_set, List.map_replicate]; done) | (simp [zf, zn, List.map_append, List.map_take, List.map_drop, List.map_set, List.map_replicate]; done) | rfl) fun _ h => za h (fun _ h => ?_) fun _ h => ?_
 refine c ?_
 cases h; exact .r
 refine ze h fun g h => ?_
 exact d g h zd
 exact b (()) h zd
theorem zDd {a : List UInt8} {r : Bool} (h : zlw a = some r) : Ret E 115 [SV.str a] (SV.bool r) := by
 refine rg [] Tryz.func115 h fun h => ?_
 refine zb h (fun _ => zF0) fun b h => zb h (fun _ => zDn) fun _ h => za h (fun _ h => ?_) fun _ h => ?_
 refine za h ?_ ?_ <;> intro _ h
 refine zb h (fun _ => zCx) fun _ h => ?_
 cases h; exact .r
 cases h; exact .r
 cases h; exact .r
theorem zy7 {e : List UInt8} {f : List (List UInt8)} {r : Int} (h : zh2 e f = some r) : Ret E 91 [SV.str e, zf 1 SV.str f] (SV.int .i64 r) := by
 refine rg [0] Tryz.func91 h fun h => ?_
 refine zb h (fun _ => zDd) fun _ h => za h (fun _ h => ?_) fun _ h => ?_
 cases h; exact .r
 refine zr (fun (g : Unit) => [(4, .int .i64 0)]) (fun _ => []) 1 h (fun g h => ?_) (fun k b c h => ?_)
 cases h; exact .r
 refine zo (fun (a : Int) => [(5, .int .i64 a), (4, .int .i64 0), (1, (zf 1 SV.str) f), (0, .str e)]) (fun _ => []) 5 h zd (fun a j l d h => ?_)
 refine za h ?_ ?_ <;> intro _ h
 refine zm SV.str h rfl fun _ h => za h (fun _ h => ?_) fun _ h => ?_
 refine c ?_
 cases h; exact .r
 refine ze h fun i h => ?_
 exact d i h zd
 exact b (()) h zd
theorem uy {a : TL} {b : Int} {r : Bool} (h : jD a b = some r) : Ret E 92 [zI a, SV.int .i64 b] (SV.bool r) := by
 refine rg [] Tryz.func92 h fun h => ?_
 refine za h ?_ ?_ <;> intro _ h
 cases h; exact .r
 cases h; exact .r
theorem zD2 {e : TP} {r : Int × Int} (h : zl4 e = some r) : Ret E 66 [zJ e] (SV.tup [SV.int .i64 r.fst, SV.int .i64 r.snd]) := by
 refine rg [0] Tryz.func66 h fun h => ?_
 refine za h ?_ ?_ <;> intro _ h
 cases h; exact .r
 refine zr (fun (f : Unit) => [(3, .int .i64 0), (2, .int .i64 0)]) (fun _ => []) 1 h (fun f h => ?_) (fun o d b h => ?_)
 cases h; exact .r
 refine zo (fun (a : Int × List (List UInt8)) => [(5, .int .i64 (a.fst)), (4, .osl (7) 1), (3, .int .i64 0), (2, .int .i64 0), (1, .ptr 0 [])]) (fun a => [(7, .row true 1 (List.map SV.str a.snd)), (0, .var true (zJ e))]) 9 h zd (fun a n p c h => ?_)
 refine za h ?_ ?_ <;> intro _ h
 refine zm zX h rfl fun _ h => zb h (fun _ => zy7) fun q h => za h (fun g h => ?_) (fun g h => ?_)
 refine zm zX h rfl fun _ h => zb h (fun _ => uy) fun _ h => za h (fun i h => ?_) (fun i h => ?_)
 refine pT ?_
 refine b ?_
 cases h; exact .r
 refine za h ?_ ?_ <;> intro _ h
 refine b ?_
 cases h; exact .r
 refine zm zX h rfl fun j h => zk h fun _ h => ze h fun k h => ?_
 exact c ((k, a.snd ++ [j.s_])) h (qa ⟨.refl _, .refl _, .refl _, .refl _, .refl _, trivial⟩ ⟨(.row (.appm .refl (.cons .refl .refl))), .refl, trivial⟩ rfl rfl rfl)
 refine za h ?_ ?_ <;> intro _ h
 refine b ?_
 cases h; exact .r
 refine zm zX h rfl fun l h => zk h fun _ h => ze h fun m h => ?_
 exact c ((m, a.snd ++ [l.s_])) h (qa ⟨.refl _, .refl _, .refl _, .refl _, .refl _, trivial⟩ ⟨(.row (.appm .refl (.cons .refl .refl))), .refl, trivial⟩ rfl rfl rfl)
 exact d (()) h zd
theorem zC3 {d : TL} {e : Int} {f : Int} {r : Int} (h : zlz d e f = some r) : Ret E 136 [zI d, SV.int .i64 e, SV.int .i64 f] (SV.int .i64 r) := by
 refine rg [] Tryz.func136 h fun h => ?_
 refine zb h (fun _ => zwm) fun g h => za h (fun _ h => ?_) fun _ h => ?_
 refine zN h (fun a h => ?_) (fun a h => ?_)
 cases h; exact .r
 refine zN h (fun b h => ?_) (fun b h => ?_)
 cases h; exact .r
 refine zN h (fun c h => ?_) (fun c h => ?_)
 cases h; exact .r
 refine za h ?_ ?_ <;> intro _ h
 cases h; exact .r
 cases h; exact .r
 cases h; exact .r
theorem zzo {e : TL} {r : Int × Int} (h : zik e = some r) : Ret E 116 [zI e] (SV.tup [SV.int .i64 r.fst, SV.int .i64 r.snd]) := by
 refine rg [0] Tryz.func116 h fun h => ?_
 refine zb h (fun _ => zC3) fun l h => za h (fun _ h => ?_) fun _ h => ?_
 cases h; exact .r
 refine zb h (fun _ => zCh) fun f h => ?_
 refine zr (fun (b : Int) => [(6, .int .i64 b), (3, .int .i64 0), (2, .int .i64 0)]) (fun _ => []) 1 h (fun b h => ?_) (fun m c j h => ?_)
 cases h; exact .r
 refine zo (fun (a : Int × Int) => [(7, .int .i64 (a.fst)), (6, .int .i64 (a.snd)), (5, (zf 1 (SV.int .u8)) f), (3, .int .i64 0), (2, .int .i64 0), (1, .ptr 0 [])]) (fun a => [(0, .var true (zI e))]) 13 h zd (fun a k n d h => ?_)
 refine za h ?_ ?_ <;> intro _ h
 refine zb h (fun _ => zym) fun g h => ze h fun i h => ?_
 exact d ((i, g)) h zd
 exact c (a.snd) h zd
theorem zDc {a : TL} {b : TY} {r : Int} (h : zim a b = some r) : Ret E 93 [zI a, qC b] (SV.int .i64 r) := by
 refine rg [0, 2] Tryz.func93 h fun h => ?_
 refine zb h (fun _ => zwm) fun _ h => za h (fun _ h => ?_) fun _ h => ?_
 cases h; exact .r
 refine za h ?_ ?_ <;> intro _ h
 refine zN h (fun w h => ?_) (fun w h => ?_)
 cases h; exact .r
 refine zN h (fun x h => ?_) (fun x h => ?_)
 cases h; exact .r
 refine zN h (fun y h => ?_) (fun y h => ?_)
 cases h; exact .r
 refine zO (by decide) ?_
 refine zp (by decide) rfl ?_
 refine zb h (fun _ => uy) fun _ h => ?_
 refine zN h (fun z h => ?_) (fun z h => ?_)
 cases h; exact .r
 refine zO (by decide) ?_
 refine zp (by decide) rfl ?_
 refine zb h (fun _ => uy) fun T h => ?_
 refine zN h (fun A h => ?_) (fun A h => ?_)
 cases h; exact .r
 refine zb h (fun _ => uy) fun U h => za h (fun _ h => ?_) fun _ h => ?_
 cases h; exact .r
 refine zb h (fun _ => zzo) fun C h => ?_
 refine zr (fun (g : Unit) => [(4, .int .i64 0), (3, .ptr (1) []), (2, .ptr 0 [])]) (fun g => [(1, .var true (qC b)), (0, .var true (zI a))]) 2 h (fun g h => ?_) (fun V j k h => ?_)
 refine zr (fun (D : Unit) => [(4, .int .i64 0)]) (fun _ => []) 1 h (fun D h => ?_) (fun W l m h => ?_)
 cases h; exact .r
 refine zo (fun (c : Int) => [(10, .int .i64 c), (4, .int .i64 0), (3, .ptr (1) []), (2, .ptr 0 [])]) (fun c => [(1, .var true (qC b)), (0, .var true (zI a))]) 3 h zd (fun c P X n h => ?_)
 refine za h ?_ ?_ <;> intro _ h
 refine zk h fun _ h => zm (SV.int .i64) h (by first | (simp only [zf, zn, List.map_append, List.map_take, List.map_drop, List.map_set, List.map_replicate]; done) | (simp [zf, zn, List.map_append, List.map_take, List.map_drop, List.map_set, List.map_replicate]; done) | rfl) fun _ h => ?_
 refine zb h (fun _ => zcs) fun _ h => za h (fun _ h => ?_) fun _ h => ?_
 refine m ?_
 cases h; exact .r
 refine ze h fun F h => ?_
 exact n F h zd
 exact l (()) h zd
 refine zo (fun (d : Int) => [(9, .int .i64 d), (7, .int .i64 (C.fst)), (4, .int .i64 0), (3, .ptr (1) []), (2, .ptr 0 [])]) (fun d => [(1, .var true (qC b)), (0, .var true (zI a))]) 63 h zd (fun d Q Y o h => ?_)
 refine za h ?_ ?_ <;> intro _ h
 refine zk h fun _ h => zm (SV.int .i64) h (by first | (simp only [zf, zn, List.map_append, List.map_take, List.map_drop, List.map_set, List.map_replicate]; done) | (simp [zf, zn, List.map_append, List.map_take, List.map_drop, List.map_set, List.map_replicate]; done) | rfl) fun _ h => ?_
 refine za h ?_ ?_ <;> intro _ h
 refine k ?_
 cases h; exact .r
 refine ze h fun G h => ?_
 exact o G h zd
 exact j (()) h zd
 refine zN h (fun H h => ?_) (fun H h => ?_)
 cases h; exact .r
 refine zN h (fun I h => ?_) (fun I h => ?_)
 cases h; exact .r
 refine zO (by decide) ?_
 refine zp (by decide) rfl ?_
 refine zb h (fun _ => uy) fun _ h => ?_
 refine zN h (fun J h => ?_) (fun J h => ?_)
 cases h; exact .r
 refine zO (by decide) ?_
 refine zp (by decide) rfl ?_
 refine zb h (fun _ => uy) fun Z h => ?_
 refine zN h (fun K h => ?_) (fun K h => ?_)
 cases h; exact .r
 refine zb h (fun _ => uy) fun a2 h => za h (fun _ h => ?_) fun _ h => ?_
 cases h; exact .r
 refine zb h (fun _ => zzo) fun L h => ?_
 refine zr (fun (i : Unit) => [(4, .int .i64 0), (3, .ptr (1) []), (2, .ptr 0 [])]) (fun i => [(1, .var true (qC b)), (0, .var true (zI a))]) 2 h (fun i h => ?_) (fun a3 p q h => ?_)
 refine zr (fun (M : Unit) => [(4, .int .i64 0)]) (fun _ => []) 1 h (fun M h => ?_) (fun a4 s t h => ?_)
 cases h; exact .r
 refine zo (fun (e : Int) => [(10, .int .i64 e), (4, .int .i64 0), (3, .ptr (1) []), (2, .ptr 0 [])]) (fun e => [(1, .var true (qC b)), (0, .var true (zI a))]) 3 h zd (fun e R a5 u h => ?_)
 refine za h ?_ ?_ <;> intro _ h
 refine zk h fun _ h => zm (SV.int .i64) h (by first | (simp only [zf, zn, List.map_append, List.map_take, List.map_drop, List.map_set, List.map_replicate]; done) | (simp [zf, zn, List.map_append, List.map_take, List.map_drop, List.map_set, List.map_replicate]; done) | rfl) fun _ h => ?_
 refine zb h (fun _ => zcs) fun _ h => za h (fun _ h => ?_) fun _ h => ?_
 refine t ?_
 cases h; exact .r
 refine ze h fun N h => ?_
 exact u N h zd
 exact s (()) h zd
 refine zo (fun (f : Int) => [(9, .int .i64 f), (7, .int .i64 (L.fst)), (4, .int .i64 0), (3, .ptr (1) []), (2, .ptr 0 [])]) (fun f => [(1, .var true (qC b)), (0, .var true (zI a))]) 60 h zd (fun f S a6 v h => ?_)
 refine za h ?_ ?_ <;> intro _ h
 refine zk h fun _ h => zm (SV.int .i64) h (by first | (simp only [zf, zn, List.map_append, List.map_take, List.map_drop, List.map_set, List.map_replicate]; done) | (simp [zf, zn, List.map_append, List.map_take, List.map_drop, List.map_set, List.map_replicate]; done) | rfl) fun _ h => ?_
 refine za h ?_ ?_ <;> intro _ h
 refine q ?_
 cases h; exact .r
 refine ze h fun O h => ?_
 exact v O h zd
 exact p (()) h zd
theorem zCz {e : TP} {r : Int × Int} (h : zl5 e = some r) : Ret E 67 [zJ e] (SV.tup [SV.int .i64 r.fst, SV.int .i64 r.snd]) := by
 refine rg [0] Tryz.func67 h fun h => ?_
 refine za h ?_ ?_ <;> intro _ h
 cases h; exact .r
 refine zr (fun (f : Unit) => [(3, .int .i64 0), (2, .int .i64 0)]) (fun _ => []) 1 h (fun f h => ?_) (fun o d b h => ?_)
 cases h; exact .r
 refine zo (fun (a : Int × List (List UInt8)) => [(5, .int .i64 (a.fst)), (4, .osl (7) 1), (3, .int .i64 0), (2, .int .i64 0), (1, .ptr 0 [])]) (fun a => [(7, .row true 1 (List.map SV.str a.snd)), (0, .var true (zJ e))]) 9 h zd (fun a n p c h => ?_)
 refine za h ?_ ?_ <;> intro _ h
 refine zm qd h rfl fun _ h => zb h (fun _ => zy7) fun q h => za h (fun g h => ?_) (fun g h => ?_)
 refine zm qd h rfl fun s h => zb h (fun _ => zDc) fun _ h => za h (fun _ h => ?_) fun _ h => ?_
 refine b ?_
 cases h; exact .r
 refine zm qd h rfl fun i h => zk h fun _ h => ze h fun j h => ?_
 exact c ((j, a.snd ++ [i.Name])) h (qa ⟨.refl _, .refl _, .refl _, .refl _, .refl _, trivial⟩ ⟨(.row (.appm .refl (.cons .refl .refl))), .refl, trivial⟩ rfl rfl rfl)
 refine za h (fun k h => ?_) (fun k h => ?_)
 refine b ?_
 cases h; exact .r
 refine zm qd h rfl fun l h => zk h fun _ h => ze h fun m h => ?_
 exact c ((m, a.snd ++ [l.Name])) h (qa ⟨.refl _, .refl _, .refl _, .refl _, .refl _, trivial⟩ ⟨(.row (.appm .refl (.cons .refl .refl))), .refl, trivial⟩ rfl rfl rfl)
 exact d (()) h zd
theorem zDx {e : TP} {r : Int × Int} (h : zlk e = some r) : Ret E 68 [zJ e] (SV.tup [SV.int .i64 r.fst, SV.int .i64 r.snd]) := by
 refine rg [0, 2] Tryz.func68 h fun h => ?_
 refine za h ?_ ?_ <;> intro _ h
 cases h; exact .r
 refine zr (fun (m : Unit) => [(3, .int .i64 0), (2, .int .i64 0)]) (fun _ => []) 1 h (fun m h => ?_) (fun y i a h => ?_)
 cases h; exact .r
 refine zo (fun (b : Int) => [(4, .int .i64 b), (3, .int .i64 0), (2, .int .i64 0), (1, .ptr 0 [])]) (fun b => [(0, .var true (zJ e))]) 8 h zd (fun b w z j h => ?_)
 refine za h ?_ ?_ <;> intro _ h
 refine zm wJ h rfl fun f h => zb h (fun _ => uy) fun A h => ?_
 refine zN h (fun n h => ?_) (fun n h => ?_)
 refine a ?_
 cases h; exact .r
 refine zb h (fun _ => uy) fun _ h => za h (fun _ h => ?_) fun _ h => ?_
 refine a ?_
 cases h; exact .r
 refine zN h (fun o h => ?_) (fun o h => ?_)
 refine a ?_
 cases h; exact .r
 refine zb h (fun _ => zcs) fun _ h => za h (fun _ h => ?_) fun _ h => ?_
 refine a ?_
 cases h; exact .r
 refine zr (fun (g : Unit) => [(5, .ptr 18 []), (4, .int .i64 b), (3, .int .i64 0), (2, .int .i64 0), (1, .ptr 0 [])]) (fun g => [(18, .var true (wJ f)), (0, .var true (zJ e))]) 19 h (fun g h => ?_) (fun C k l h => ?_)
 refine zN h (fun p h => ?_) (fun p h => ?_)
 refine a ?_
 cases h; exact .r
 refine za h ?_ ?_ <;> intro _ h
 refine a ?_
 cases h; exact .r
 refine ze h fun q h => ?_
 exact j q h zd
 refine zo (fun (c : Int) => [(6, .int .i64 c), (5, .ptr 18 []), (4, .int .i64 b), (3, .int .i64 0), (2, .int .i64 0), (1, .ptr 0 [])]) (fun c => [(18, .var true (wJ f)), (0, .var true (zJ e))]) 50 h zd (fun c x D d h => ?_)
 refine za h (fun s h => ?_) (fun s h => ?_)
 refine zm wJ h rfl fun F h => za h (fun t h => ?_) (fun t h => ?_)
 refine zm wJ h rfl fun G h => za h (fun _ h => ?_) fun _ h => ?_
 refine l ?_
 refine a ?_
 cases h; exact .r
 refine ze h fun u h => ?_
 exact d u h zd
 refine ze h fun v h => ?_
 exact d v h zd
 exact k (()) h zd
 exact i (()) h zd
theorem zzg {a : TP} {r : Int × Int × Int} (h : zin a = some r) : Ret E 43 [zJ a] (SV.tup [SV.int .i64 r.fst, SV.int .i64 r.snd.fst, SV.int .i64 r.snd.snd]) := by
 refine rg [] Tryz.func43 h fun h => ?_
 refine zb h (fun _ => zwm) fun _ h => za h (fun _ h => ?_) fun _ h => ?_
 cases h; exact .r
 refine zb h (fun _ => zD2) fun _ h => za h (fun _ h => ?_) fun _ h => ?_
 cases h; exact .r
 refine zb h (fun _ => zCz) fun b h => za h (fun _ h => ?_) fun _ h => ?_
 cases h; exact .r
 refine zb h (fun _ => zDx) fun _ h => za h (fun _ h => ?_) fun _ h => ?_
 cases h; exact .r
 cases h; exact .r
theorem zls {e : Int} {f : Int × Int} {r : Int} (h : za3 e f = some r) : Ret E 33 [SV.int .i64 e, zE 1 (SV.int .i64) f] (SV.int .i64 r) := by
 refine rg [0] Tryz.func33 h fun h => ?_
 refine zr (fun (b : Int) => [(5, .int .i64 b), (4, .int .i64 0)]) (fun _ => []) 1 h (fun b h => ?_) (fun l c j h => ?_)
 cases h; exact .r
 refine zo (fun (a : Int × Int) => [(6, .int .i64 (a.fst)), (5, .int .i64 (a.snd)), (4, .int .i64 0), (3, .ptr 0 []), (0, .int .i64 e)]) (fun a => [(0, .var true ((zE 1 (SV.int .i64)) f))]) 4 h zd (fun a k m d h => ?_)
 refine za h ?_ ?_ <;> intro _ h
 refine zk h fun _ h => zm (SV.int .i64) h (by first | (simp only [zf, zn, List.map_append, List.map_take, List.map_drop, List.map_set, List.map_replicate]; done) | (simp [zf, zn, List.map_append, List.map_take, List.map_drop, List.map_set, List.map_replicate]; done) | rfl) fun _ h => ?_
 refine ze h fun g h => ze h fun i h => ?_
 exact d ((i, g)) h zd
 exact c (a.snd) h zd
theorem zzc {c : Int} {d : Int × Int} {r : Int} (h : ziq c d = some r) : Ret E 85 [SV.int .i64 c, zE 1 (SV.int .i64) d] (SV.int .i64 r) := by
 refine rg [0, 2] Tryz.func85 h fun h => ?_
 refine zN h (fun n h => ?_) (fun n h => ?_)
 cases h; exact .r
 refine za h ?_ ?_ <;> intro _ h
 cases h; exact .r
 refine zr (fun (e : Unit) => [(4, .int .i64 0), (3, .ptr 0 []), (0, .int .i64 c)]) (fun e => [(0, .var true ((zE 1 (SV.int .i64)) d))]) 1 h (fun e h => ?_) (fun v g i h => ?_)
 refine zr (fun (f : Unit) => [(4, .int .i64 0), (3, .ptr 0 []), (0, .int .i64 c)]) (fun f => [(0, .var true ((zE 1 (SV.int .i64)) d))]) 1 h (fun f h => ?_) (fun w j k h => ?_)
 refine zO (by decide) ?_
 refine zp (by decide) rfl ?_
 refine zN h (fun o h => ?_) (fun o h => ?_)
 cases h; exact .r
 refine zO (by decide) ?_
 refine zp (by decide) rfl ?_
 refine zN h (fun p h => ?_) (fun p h => ?_)
 cases h; exact .r
 refine zb h (fun _ => zls) fun _ h => za h (fun _ h => ?_) fun _ h => ?_
 cases h; exact .r
 cases h; exact .r
 refine zo (fun (a : Int) => [(6, .int .i64 a), (4, .int .i64 0), (3, .ptr 0 []), (0, .int .i64 c)]) (fun a => [(0, .var true ((zE 1 (SV.int .i64)) d))]) 3 h zd (fun a t x l h => ?_)
 refine za h ?_ ?_ <;> intro _ h
 refine zk h fun _ h => zm (SV.int .i64) h (by first | (simp only [zf, zn, List.map_append, List.map_take, List.map_drop, List.map_set, List.map_replicate]; done) | (simp [zf, zn, List.map_append, List.map_take, List.map_drop, List.map_set, List.map_replicate]; done) | rfl) fun y h => ?_
 refine za h ?_ ?_ <;> intro _ h
 refine k ?_
 cases h; exact .r
 refine ze h fun q h => ?_
 exact l q h zd
 exact j (()) h zd
 refine zo (fun (b : Int) => [(5, .int .i64 b), (4, .int .i64 0), (3, .ptr 0 []), (0, .int .i64 c)]) (fun b => [(0, .var true ((zE 1 (SV.int .i64)) d))]) 9 h zd (fun b u z m h => ?_)
 refine za h ?_ ?_ <;> intro _ h
 refine zk h fun _ h => zm (SV.int .i64) h (by first | (simp only [zf, zn, List.map_append, List.map_take, List.map_drop, List.map_set, List.map_replicate]; done) | (simp [zf, zn, List.map_append, List.map_take, List.map_drop, List.map_set, List.map_replicate]; done) | rfl) fun _ h => ?_
 refine za h ?_ ?_ <;> intro _ h
 refine i ?_
 cases h; exact .r
 refine ze h fun s h => ?_
 exact m s h zd
 exact g (()) h zd
theorem zl7 {a : Int} {b : Int × Int} {r : Int × Int} (h : zb0 a b = some r) : Ret E 62 [SV.int .i64 a, zE 1 (SV.int .i64) b] (SV.tup [SV.int .i64 r.fst, SV.int .i64 r.snd]) := by
 refine rg [] Tryz.func62 h fun h => ?_
 refine zb h (fun _ => zzc) fun _ h => za h (fun _ h => ?_) fun _ h => ?_
 cases h; exact .r
 refine zb h (fun _ => zls) fun _ h => ?_
 cases h; exact .r
theorem zzj {c : Int} {r : Bool} (h : zel c = some r) : Ret E 69 [SV.int .i64 c] (SV.bool r) := by
 refine rg [] Tryz.func69 h fun h => ?_
 refine za h ?_ ?_ <;> intro _ h
 refine za h (fun a h => ?_) (fun a h => ?_)
 refine zN h (fun b h => ?_) (fun b h => ?_)
 cases h; exact .r
 cases h; exact .r
 cases h; exact .r
 cases h; exact .r
theorem zri {f : TA} {r : Int} (h : za2 f = some r) : Ret E 44 [qm f] (SV.int .i64 r) := by
 refine rg [0] Tryz.func44 h fun h => ?_
 refine za h ?_ ?_ <;> intro _ h
 refine za h ?_ ?_ <;> intro _ h
 cases h; exact .r
 refine zb h (fun _ => zl7) fun n h => za h (fun o h => ?_) (fun o h => ?_)
 refine za h ?_ ?_ <;> intro _ h
 refine zr (fun (y : Unit) => [(4, .int .i64 6), (2, .int .i64 0)]) (fun _ => []) 1 h (fun y h => ?_) (fun a1 g K h => ?_)
 cases h; exact .r
 refine zo (fun (p : Unit) => [(5, .int .i64 0), (4, .int .i64 6), (2, .int .i64 0), (1, .ptr 0 [])]) (fun p => [(0, .var true (qm f))]) 31 h zd (fun p L a2 M h => ?_)
 refine za h ?_ ?_ <;> intro _ h
 refine pF ?_
 exact g (()) h zd
 exact g (()) h zd
 refine zr (fun (q : Int) => [(4, .int .i64 q), (2, .int .i64 0)]) (fun _ => []) 1 h (fun q h => ?_) (fun a3 i N h => ?_)
 cases h; exact .r
 refine zo (fun (a : Int × Int) => [(5, .int .i64 (a.fst)), (4, .int .i64 (a.snd)), (2, .int .i64 0), (1, .ptr 0 [])]) (fun a => [(0, .var true (qm f))]) 30 h zd (fun a O a4 c h => ?_)
 refine za h ?_ ?_ <;> intro _ h
 refine za h ?_ ?_ <;> intro _ h
 refine za h ?_ ?_ <;> intro _ h
 refine zm (SV.int .i64) h rfl fun a5 h => zb h (fun _ => zzj) fun _ h => za h (fun _ h => ?_) fun _ h => ?_
 refine ze h fun z h => ?_
 exact c ((z, (7 : Int))) h zd
 refine ze h fun A h => ?_
 exact c ((A, a.snd)) h zd
 refine ze h fun C h => ?_
 exact c ((C, a.snd)) h zd
 exact i (a.snd) h zd
 exact i (a.snd) h zd
 refine zr (fun (D : Unit) => [(4, .int .i64 (n.snd)), (2, .int .i64 0)]) (fun _ => []) 1 h (fun D h => ?_) (fun a6 j P h => ?_)
 cases h; exact .r
 refine zo (fun (s : Unit) => [(5, .int .i64 0), (4, .int .i64 (n.snd)), (2, .int .i64 0), (1, .ptr 0 [])]) (fun s => [(0, .var true (qm f))]) 25 h zd (fun s Q a7 R h => ?_)
 refine za h ?_ ?_ <;> intro _ h
 refine ⟨fun e => absurd (e.symm.trans o) (by decide), fun _ => ?_⟩
 exact j (()) h zd
 exact j (()) h zd
 refine zb h (fun _ => zl7) fun t h => za h (fun u h => ?_) (fun u h => ?_)
 refine za h ?_ ?_ <;> intro _ h
 refine zr (fun (F : Unit) => [(4, .int .i64 6), (2, .int .i64 0)]) (fun _ => []) 1 h (fun F h => ?_) (fun a8 k S h => ?_)
 cases h; exact .r
 refine zo (fun (v : Unit) => [(5, .int .i64 0), (4, .int .i64 6), (2, .int .i64 0), (1, .ptr 0 [])]) (fun v => [(0, .var true (qm f))]) 28 h zd (fun v T a9 U h => ?_)
 refine za h ?_ ?_ <;> intro _ h
 refine pF ?_
 exact k (()) h zd
 exact k (()) h zd
 refine zr (fun (w : Int) => [(4, .int .i64 w), (2, .int .i64 0)]) (fun _ => []) 1 h (fun w h => ?_) (fun b0 l V h => ?_)
 cases h; exact .r
 refine zo (fun (b : Int × Int) => [(5, .int .i64 (b.fst)), (4, .int .i64 (b.snd)), (2, .int .i64 0), (1, .ptr 0 [])]) (fun b => [(0, .var true (qm f))]) 27 h zd (fun b W b1 d h => ?_)
 refine za h ?_ ?_ <;> intro _ h
 refine za h ?_ ?_ <;> intro _ h
 refine za h ?_ ?_ <;> intro _ h
 refine zm (SV.int .i64) h rfl fun b2 h => zb h (fun _ => zzj) fun _ h => za h (fun _ h => ?_) fun _ h => ?_
 refine ze h fun G h => ?_
 exact d ((G, (7 : Int))) h zd
 refine ze h fun H h => ?_
 exact d ((H, b.snd)) h zd
 refine ze h fun I h => ?_
 exact d ((I, b.snd)) h zd
 exact l (b.snd) h zd
 exact l (b.snd) h zd
 refine zr (fun (J : Unit) => [(4, .int .i64 (t.snd)), (2, .int .i64 0)]) (fun _ => []) 1 h (fun J h => ?_) (fun b3 m X h => ?_)
 cases h; exact .r
 refine zo (fun (x : Unit) => [(5, .int .i64 0), (4, .int .i64 (t.snd)), (2, .int .i64 0), (1, .ptr 0 [])]) (fun x => [(0, .var true (qm f))]) 22 h zd (fun x Y b4 Z h => ?_)
 refine za h ?_ ?_ <;> intro _ h
 refine ⟨fun e => absurd (e.symm.trans u) (by decide), fun _ => ?_⟩
 exact m (()) h zd
 exact m (()) h zd
theorem zr3 {k : TP} {l : List TW} {r : Int × Int} (h : ze6 k l = some r) : Ret E 19 [zJ k, zf 6 zl l] (SV.tup [SV.int .i64 r.fst, SV.int .i64 r.snd]) := by
 refine rg [0] Tryz.func19 h fun h => ?_
 refine zb h (fun _ => zzg) fun _ h => za h (fun _ h => ?_) fun _ h => ?_
 refine za h ?_ ?_ <;> intro _ h
 refine pT ?_
 cases h; exact .r
 refine za h ?_ ?_ <;> intro _ h
 cases h; exact .r
 refine zr (fun (o : Unit) => [(5, .int .i64 0), (4, .int .i64 0)]) (fun _ => []) 1 h (fun o h => ?_) (fun y m a h => ?_)
 cases h; exact .r
 refine zo (fun (c : Int) => [(9, .int .i64 c), (5, .int .i64 0), (4, .int .i64 0), (2, .ptr 0 []), (1, (zf 6 zl) l)]) (fun c => [(0, .var true (zJ k))]) 25 h zd (fun c w z i h => ?_)
 refine za h ?_ ?_ <;> intro _ h
 refine zm zl h rfl fun A h => zm qd h rfl fun _ h => za h (fun _ h => ?_) fun _ h => ?_
 refine a ?_
 cases h; exact .r
 refine zm zl h rfl fun _ h => zb h (fun _ => zri) fun _ h => za h (fun d h => ?_) (fun d h => ?_)
 refine zm zl h rfl fun _ h => zm qd h rfl fun _ h => za h (fun _ h => ?_) fun _ h => ?_
 refine pF ?_
 refine pT ?_
 refine a ?_
 cases h; exact .r
 refine ⟨fun _ => ?_, fun e => absurd (e.symm.trans d) (by decide)⟩
 refine zm zl h rfl fun C h => zm qd h rfl fun _ h => za h (fun _ h => ?_) fun _ h => ?_
 refine pT ?_
 refine a ?_
 cases h; exact .r
 refine za h (fun p h => ?_) (fun p h => ?_)
 refine a ?_
 cases h; exact .r
 refine ze h fun q h => ?_
 exact i q h zd
 refine ⟨fun e => absurd (e.symm.trans d) (by decide), fun _ => ?_⟩
 refine za h ?_ ?_ <;> intro _ h
 refine a ?_
 cases h; exact .r
 refine ze h fun s h => ?_
 exact i s h zd
 exact m (()) h zd
 refine za h ?_ ?_ <;> intro _ h
 cases h; exact .r
 refine zr (fun (t : Unit) => [(5, .int .i64 0), (4, .int .i64 0)]) (fun _ => []) 1 h (fun t h => ?_) (fun D n b h => ?_)
 cases h; exact .r
 refine zo (fun (f : Int) => [(9, .int .i64 f), (5, .int .i64 0), (4, .int .i64 0), (2, .ptr 0 []), (1, (zf 6 zl) l)]) (fun f => [(0, .var true (zJ k))]) 19 h zd (fun f x F j h => ?_)
 refine za h ?_ ?_ <;> intro _ h
 refine zm zl h rfl fun _ h => zm qd h rfl fun _ h => za h (fun _ h => ?_) fun _ h => ?_
 refine b ?_
 cases h; exact .r
 refine zm zl h rfl fun _ h => zb h (fun _ => zri) fun _ h => za h (fun g h => ?_) (fun g h => ?_)
 refine zm zl h rfl fun _ h => zm qd h rfl fun _ h => za h (fun _ h => ?_) fun _ h => ?_
 refine pF ?_
 refine pT ?_
 refine b ?_
 cases h; exact .r
 refine ⟨fun _ => ?_, fun e => absurd (e.symm.trans g) (by decide)⟩
 refine zm zl h rfl fun _ h => zm qd h rfl fun G h => za h (fun _ h => ?_) fun _ h => ?_
 refine pT ?_
 refine b ?_
 cases h; exact .r
 refine za h ?_ ?_ <;> intro _ h
 refine b ?_
 cases h; exact .r
 refine ze h fun u h => ?_
 exact j u h zd
 refine ⟨fun e => absurd (e.symm.trans g) (by decide), fun _ => ?_⟩
 refine za h ?_ ?_ <;> intro _ h
 refine b ?_
 cases h; exact .r
 refine ze h fun v h => ?_
 exact j v h zd
 exact n (()) h zd
theorem zzb {c : TP} {d : Int} {r : Int} (h : zh8 c d = some r) : Ret E 31 [zJ c, SV.int .i64 d] (SV.int .i64 r) := by
 refine rg [] Tryz.func31 h fun h => ?_
 refine zb h (fun _ => zzg) fun _ h => za h (fun _ h => ?_) fun _ h => ?_
 refine zN h (fun a h => ?_) (fun a h => ?_)
 cases h; exact .r
 refine za h (fun b h => ?_) (fun b h => ?_)
 cases h; exact .r
 cases h; exact .r
 cases h; exact .r
theorem zll {f : TL} {g : TY} {i : Int} {r : (Bool × Bool) × Bool} (h : uF f g i = some r) : Ret E 32 [zI f, qC g, SV.int .i64 i] (SV.agg [zE 1 SV.bool r.fst, .bool r.snd]) := by
 refine rg [0] Tryz.func32 h fun h => ?_
 refine zb h (fun _ => zcs) fun _ h => ?_
 refine zr (fun (b : (Bool × Bool) × Bool) => [(7, .ptr (3) []), (6, .ptr (2) [])]) (fun b => [(3, .var true ((fun (x : (Bool × Bool) × Bool) => SV.agg [zE 1 SV.bool x.fst, .bool x.snd]) b)), (2, .var true (SV.agg [SV.arr 2 1 [SV.fls, SV.fls], SV.fls]))]) 4 h (fun b h => ?_) (fun o e m h => ?_)
 cases h; exact .r
 refine zo (fun (a : Int × (Bool × Bool) × Bool) => [(8, .int .i64 (a.fst)), (7, .ptr (3) []), (6, .ptr (2) []), (4, .ptr (1) []), (3, .ptr 0 []), (2, .int .i64 i)]) (fun a => [(3, .var true ((fun (x : (Bool × Bool) × Bool) => SV.agg [zE 1 SV.bool x.fst, .bool x.snd]) (a.snd))), (2, .var true (SV.agg [SV.arr 2 1 [SV.fls, SV.fls], SV.fls])), (1, .var true (qC g)), (0, .var true (zI f))]) 12 h (qa ⟨.refl _, .refl _, .refl _, .refl _, .refl _, .refl _, trivial⟩ ⟨(.var (.agg (.cons (.arr (.cons .fls (.cons .fls .refl))) (.cons .refl .nil)))), .refl, .refl, .refl, trivial⟩ rfl rfl rfl) (fun a n p c h => ?_)
 refine za h ?_ ?_ <;> intro _ h
 refine zk h fun _ h => zm (SV.int .i64) h (by first | (simp only [zf, zn, List.map_append, List.map_take, List.map_drop, List.map_set, List.map_replicate]; done) | (simp [zf, zn, List.map_append, List.map_take, List.map_drop, List.map_set, List.map_replicate]; done) | rfl) fun _ h => ?_
 refine zb h (fun _ => zcs) fun d h => zk h fun _ h => zm SV.bool h (by first | (simp only [zf, zn, List.map_append, List.map_take, List.map_drop, List.map_set, List.map_replicate]; done) | (simp [zf, zn, List.map_append, List.map_take, List.map_drop, List.map_set, List.map_replicate]; done) | rfl) fun q h => ?_
 refine za h ?_ ?_ <;> intro _ h
 refine zk h fun _ h => zm SV.bool h (by first | (simp only [zf, zn, List.map_append, List.map_take, List.map_drop, List.map_set, List.map_replicate]; done) | (simp [zf, zn, List.map_append, List.map_take, List.map_drop, List.map_set, List.map_replicate]; done) | rfl) fun j h => ?_
 refine ze h fun k h => ?_
 exact c ((k, qv a.snd.fst (Int.toNat a.fst) d, j)) h (qa ⟨.refl _, .refl _, .refl _, .refl _, .refl _, .refl _, trivial⟩ ⟨(.var (.agg (.cons (.arr (.of (by simp only [uc, qv]; (repeat' split) <;> first | rfl | (exfalso; omega)))) (.cons .refl .nil)))), .refl, .refl, .refl, trivial⟩ rfl rfl rfl)
 refine ze h fun l h => ?_
 exact c ((l, qv a.snd.fst (Int.toNat a.fst) d, false)) h (qa ⟨.refl _, .refl _, .refl _, .refl _, .refl _, .refl _, trivial⟩ ⟨(.var (.agg (.cons (.arr (.of (by simp only [uc, qv]; (repeat' split) <;> first | rfl | (exfalso; omega)))) (.cons .fls .nil)))), .refl, .refl, .refl, trivial⟩ rfl rfl rfl)
 exact e (a.snd) h zd
theorem zCw {j : TP} {k : List TW} {l : Int} {r : List TW × Int} (h : zl8 j k l = some r) : Ret E 9 [zJ j, zf 6 zl k, SV.int .i64 l] (SV.tup [zf 6 zl r.fst, SV.int .i64 r.snd]) := by
 refine rg [0, 2] Tryz.func9 h fun h => ?_
 refine zb h (fun _ => zr3) fun _ h => za h (fun _ h => ?_) fun _ h => ?_
 refine zb h (fun _ => zzb) fun _ h => za h (fun _ h => ?_) fun _ h => ?_
 cases h; exact .r
 refine zr (fun (m : List TW) => [(10, .osl (19) 6), (7, .int .i64 0), (6, .osl (1) 6)]) (fun m => [(19, .row true 6 (List.map zl m)), (1, .row true 6 [])]) 20 h (fun m h => ?_) (fun Y t Q h => ?_)
 cases h; exact .r
 refine zo (fun (a : Int × List TW) => [(11, .int .i64 (a.fst)), (10, .osl (19) 6), (7, .int .i64 0), (6, .osl (1) 6), (3, .ptr 0 []), (2, .int .i64 l), (1, (zf 6 zl) k)]) (fun a => [(19, .row true 6 (List.map zl a.snd)), (1, .row true 6 []), (0, .var true (zJ j))]) 21 h zd (fun a R Z o h => ?_)
 refine za h ?_ ?_ <;> intro _ h
 refine zm qd h rfl fun _ h => zb h (fun _ => zll) fun y h => zm zl h rfl fun e h => za h (fun _ h => ?_) fun _ h => ?_
 refine zr (fun (g : Int × Int) => [(13, .ptr 42 []), (11, .int .i64 (a.fst)), (10, .osl (19) 6), (7, .int .i64 0), (6, .osl (1) 6), (3, .ptr 0 []), (2, .int .i64 l), (1, (zf 6 zl) k)]) (fun g => [(42, .var true (SV.agg [SV.int .i64 e.Value.Kind, SV.int .i64 e.Value.Rank, zE 1 (SV.int .i64) g, SV.nils])), (19, .row true 6 (List.map zl a.snd)), (1, .row true 6 []), (0, .var true (zJ j))]) 43 h (fun g h => ?_) (fun a3 u S h => ?_)
 refine zb h (fun _ => zls) fun z h => zk h fun _ h => zm zl h rfl fun A h => zk h fun _ h => ze h fun C h => ?_
 exact o ((C, a.snd ++ [TW.mk A.Name (TA.mk e.Value.Kind e.Value.Rank g (List.replicate (Int.toNat z) (0 : Int)))])) h (qa ⟨.refl _, .refl _, .refl _, .refl _, .refl _, .refl _, .refl _, trivial⟩ ⟨(.row (.appm .refl (.cons (.agg (.cons .refl (.cons (.agg (.cons .refl (.cons .refl (.cons .refl (.cons (.sl (.of (by first | (simp only [zf, zn, List.map_append, List.map_take, List.map_drop, List.map_set, List.map_replicate]; done) | (simp [zf, zn, List.map_append, List.map_take, List.map_drop, List.map_set, List.map_replicate]; done) | rfl))) .nil))))) .nil))) .refl))), .refl, .refl, trivial⟩ rfl rfl rfl)
 refine zo (fun (c : Int × Int × Int) => [(14, .int .i64 (c.fst)), (13, .ptr 42 []), (12, .ptr 35 []), (11, .int .i64 (a.fst)), (10, .osl (19) 6), (7, .int .i64 0), (6, .osl (1) 6), (3, .ptr 0 []), (2, .int .i64 l), (1, (zf 6 zl) k)]) (fun c => [(42, .var true (SV.agg [SV.int .i64 e.Value.Kind, SV.int .i64 e.Value.Rank, zE 1 (SV.int .i64) c.snd, SV.nils])), (35, .var true ((fun (x : (Bool × Bool) × Bool) => SV.agg [zE 1 SV.bool x.fst, .bool x.snd]) y)), (19, .row true 6 (List.map zl a.snd)), (1, .row true 6 []), (0, .var true (zJ j))]) 56 h zd (fun c T a4 p h => ?_)
 refine za h ?_ ?_ <;> intro _ h
 refine zk h fun _ h => zm SV.bool h (by first | (simp only [zf, zn, List.map_append, List.map_take, List.map_drop, List.map_set, List.map_replicate]; done) | (simp [zf, zn, List.map_append, List.map_take, List.map_drop, List.map_set, List.map_replicate]; done) | rfl) fun _ h => za h (fun _ h => ?_) fun _ h => ?_
 refine zk h fun _ h => zm (SV.int .i64) h (by first | (simp only [zf, zn, List.map_append, List.map_take, List.map_drop, List.map_set, List.map_replicate]; done) | (simp [zf, zn, List.map_append, List.map_take, List.map_drop, List.map_set, List.map_replicate]; done) | rfl) fun _ h => ?_
 refine ze h fun D h => ?_
 exact p ((D, qv c.snd (Int.toNat c.fst) (0 : Int))) h (qa ⟨.refl _, .refl _, .refl _, .refl _, .refl _, .refl _, .refl _, .refl _, .refl _, .refl _, trivial⟩ ⟨(.var (.agg (.cons .refl (.cons .refl (.cons (.arr (.of (by simp only [uc, qv]; (repeat' split) <;> first | rfl | (exfalso; omega)))) (.cons .refl .nil)))))), .refl, .refl, .refl, .refl, trivial⟩ rfl rfl rfl)
 refine ze h fun F h => ?_
 exact p ((F, c.snd)) h zd
 exact u (c.snd) h zd
 refine zm zl h rfl fun G h => zk h fun _ h => ze h fun H h => ?_
 exact o ((H, a.snd ++ [TW.mk G.Name e.Value])) h (qa ⟨.refl _, .refl _, .refl _, .refl _, .refl _, .refl _, .refl _, trivial⟩ ⟨(.row (.appm .refl (.cons .refl .refl))), .refl, .refl, trivial⟩ rfl rfl rfl)
 exact t (a.snd) h zd
 refine za h ?_ ?_ <;> intro _ h
 cases h; exact .r
 refine zr (fun (n : List TW) => [(10, .osl (15) 6), (7, .int .i64 0), (6, .osl (1) 6)]) (fun n => [(15, .row true 6 (List.map zl n)), (1, .row true 6 [])]) 16 h (fun n h => ?_) (fun a5 v U h => ?_)
 cases h; exact .r
 refine zo (fun (b : Int × List TW) => [(11, .int .i64 (b.fst)), (10, .osl (15) 6), (7, .int .i64 0), (6, .osl (1) 6), (3, .ptr 0 []), (2, .int .i64 l), (1, (zf 6 zl) k)]) (fun b => [(15, .row true 6 (List.map zl b.snd)), (1, .row true 6 []), (0, .var true (zJ j))]) 17 h zd (fun b V a6 q h => ?_)
 refine za h ?_ ?_ <;> intro _ h
 refine zm qd h rfl fun _ h => zb h (fun _ => zll) fun I h => zm zl h rfl fun f h => za h (fun _ h => ?_) fun _ h => ?_
 refine zr (fun (i : Int × Int) => [(13, .ptr 38 []), (11, .int .i64 (b.fst)), (10, .osl (15) 6), (7, .int .i64 0), (6, .osl (1) 6), (3, .ptr 0 []), (2, .int .i64 l), (1, (zf 6 zl) k)]) (fun i => [(38, .var true (SV.agg [SV.int .i64 f.Value.Kind, SV.int .i64 f.Value.Rank, zE 1 (SV.int .i64) i, SV.nils])), (15, .row true 6 (List.map zl b.snd)), (1, .row true 6 []), (0, .var true (zJ j))]) 39 h (fun i h => ?_) (fun a7 w W h => ?_)
 refine zb h (fun _ => zls) fun J h => zk h fun _ h => zm zl h rfl fun K h => zk h fun _ h => ze h fun L h => ?_
 exact q ((L, b.snd ++ [TW.mk K.Name (TA.mk f.Value.Kind f.Value.Rank i (List.replicate (Int.toNat J) (0 : Int)))])) h (qa ⟨.refl _, .refl _, .refl _, .refl _, .refl _, .refl _, .refl _, trivial⟩ ⟨(.row (.appm .refl (.cons (.agg (.cons .refl (.cons (.agg (.cons .refl (.cons .refl (.cons .refl (.cons (.sl (.of (by first | (simp only [zf, zn, List.map_append, List.map_take, List.map_drop, List.map_set, List.map_replicate]; done) | (simp [zf, zn, List.map_append, List.map_take, List.map_drop, List.map_set, List.map_replicate]; done) | rfl))) .nil))))) .nil))) .refl))), .refl, .refl, trivial⟩ rfl rfl rfl)
 refine zo (fun (d : Int × Int × Int) => [(14, .int .i64 (d.fst)), (13, .ptr 38 []), (12, .ptr 31 []), (11, .int .i64 (b.fst)), (10, .osl (15) 6), (7, .int .i64 0), (6, .osl (1) 6), (3, .ptr 0 []), (2, .int .i64 l), (1, (zf 6 zl) k)]) (fun d => [(38, .var true (SV.agg [SV.int .i64 f.Value.Kind, SV.int .i64 f.Value.Rank, zE 1 (SV.int .i64) d.snd, SV.nils])), (31, .var true ((fun (x : (Bool × Bool) × Bool) => SV.agg [zE 1 SV.bool x.fst, .bool x.snd]) I)), (15, .row true 6 (List.map zl b.snd)), (1, .row true 6 []), (0, .var true (zJ j))]) 52 h zd (fun d X a8 s h => ?_)
 refine za h ?_ ?_ <;> intro _ h
 refine zk h fun _ h => zm SV.bool h (by first | (simp only [zf, zn, List.map_append, List.map_take, List.map_drop, List.map_set, List.map_replicate]; done) | (simp [zf, zn, List.map_append, List.map_take, List.map_drop, List.map_set, List.map_replicate]; done) | rfl) fun _ h => za h (fun _ h => ?_) fun _ h => ?_
 refine zk h fun _ h => zm (SV.int .i64) h (by first | (simp only [zf, zn, List.map_append, List.map_take, List.map_drop, List.map_set, List.map_replicate]; done) | (simp [zf, zn, List.map_append, List.map_take, List.map_drop, List.map_set, List.map_replicate]; done) | rfl) fun _ h => ?_
 refine ze h fun M h => ?_
 exact s ((M, qv d.snd (Int.toNat d.fst) (0 : Int))) h (qa ⟨.refl _, .refl _, .refl _, .refl _, .refl _, .refl _, .refl _, .refl _, .refl _, .refl _, trivial⟩ ⟨(.var (.agg (.cons .refl (.cons .refl (.cons (.arr (.of (by simp only [uc, qv]; (repeat' split) <;> first | rfl | (exfalso; omega)))) (.cons .refl .nil)))))), .refl, .refl, .refl, .refl, trivial⟩ rfl rfl rfl)
 refine ze h fun N h => ?_
 exact s ((N, d.snd)) h zd
 exact w (d.snd) h zd
 refine zm zl h rfl fun O h => zk h fun _ h => ze h fun P h => ?_
 exact q ((P, b.snd ++ [TW.mk O.Name f.Value])) h (qa ⟨.refl _, .refl _, .refl _, .refl _, .refl _, .refl _, .refl _, trivial⟩ ⟨(.row (.appm .refl (.cons .refl .refl))), .refl, .refl, trivial⟩ rfl rfl rfl)
 exact v (b.snd) h zd
theorem zDs {f : Int} {g : Int × Int} {i : Int × Int} {r : Int × Int} (h : zlu f g i = some r) : Ret E 84 [SV.int .i64 f, zE 1 (SV.int .i64) g, zE 1 (SV.int .i64) i] (SV.tup [SV.int .i64 r.fst, SV.int .i64 r.snd]) := by
 refine rg [0] Tryz.func84 h fun h => ?_
 refine zb h (fun _ => zCl) fun _ h => za h (fun _ h => ?_) fun _ h => ?_
 cases h; exact .r
 refine zr (fun (d : Int) => [(9, .int .i64 d), (7, .int .i64 0), (6, .int .i64 0)]) (fun _ => []) 1 h (fun d h => ?_) (fun q e a h => ?_)
 cases h; exact .r
 refine zo (fun (b : Int × Int) => [(20, .int .i64 (b.fst)), (19, (zE 1 (SV.int .i64)) i), (9, .int .i64 (b.snd)), (7, .int .i64 0), (6, .int .i64 0), (4, .ptr 0 []), (0, .int .i64 f)]) (fun b => [(0, .var true ((zE 1 (SV.int .i64)) g))]) 13 h zd (fun b p s c h => ?_)
 refine za h ?_ ?_ <;> intro _ h
 refine zm (SV.int .i64) h (by first | (simp only [zf, zn, List.map_append, List.map_take, List.map_drop, List.map_set, List.map_replicate]; done) | (simp [zf, zn, List.map_append, List.map_take, List.map_drop, List.map_set, List.map_replicate]; done) | rfl) fun _ h => za h (fun _ h => ?_) fun _ h => ?_
 refine zk h fun _ h => zm (SV.int .i64) h (by first | (simp only [zf, zn, List.map_append, List.map_take, List.map_drop, List.map_set, List.map_replicate]; done) | (simp [zf, zn, List.map_append, List.map_take, List.map_drop, List.map_set, List.map_replicate]; done) | rfl) fun _ h => ?_
 refine zN h (fun j h => ?_) (fun j h => ?_)
 refine a ?_
 cases h; exact .r
 refine za h ?_ ?_ <;> intro _ h
 refine a ?_
 cases h; exact .r
 refine ze h fun _ h => ze h fun k h => ze h fun l h => ?_
 exact c ((l, k)) h zd
 refine zN h (fun m h => ?_) (fun m h => ?_)
 refine a ?_
 cases h; exact .r
 refine za h ?_ ?_ <;> intro _ h
 refine a ?_
 cases h; exact .r
 refine ze h fun t h => ze h fun n h => ze h fun o h => ?_
 exact c ((o, n)) h zd
 exact e (b.snd) h zd
theorem zDz {a : TA} {b : Int × Int} {r : Int × Int} (h : zrh a b = some r) : Ret E 61 [qg qm a, zE 1 (SV.int .i64) b] (SV.tup [SV.int .i64 r.fst, SV.int .i64 r.snd]) := by
 refine rg [] Tryz.func61 h fun h => ?_
 refine zb h (fun _ => zCa) fun _ h => za h (fun _ h => ?_) fun _ h => ?_
 cases h; exact .r
 refine zb h (fun _ => zDs) fun c h => ?_
 cases h; exact .r
theorem zCr {a : TA} {b : Int × Int} {r : Int × Int} (h : zlh a b = some r) : Ret E 36 [qm a, zE 1 (SV.int .i64) b] (SV.tup [SV.int .i64 r.fst, SV.int .i64 r.snd]) := by
 refine rg [] Tryz.func36 h fun h => ?_
 refine zb h (fun _ => zDz) fun c h => za h (fun _ h => ?_) fun _ h => ?_
 cases h; exact .r
 refine zm (SV.int .i64) h rfl fun d h => ?_
 cases h; exact .r
theorem zDu {a : Int × Int} {b : List TW} {c : Int} {r : Int} (h : zme a b c = some r) : Ret E 35 [zE 1 (SV.int .i64) a, qg (zf 6 zl) b, qg (SV.int .i64) c] (SV.int .i64 r) := by
 refine rg [] Tryz.func35 h fun h => ?_
 refine zm zl h rfl fun _ h => zb h (fun _ => zCr) fun d h => ?_
 cases h; exact .r
theorem zCy {e : TA} {j : (Bool × Bool) × Bool} {o : Int × Int} {f : List TW × Int} {r : TA × Bool} (h : zl3 e j o f = some r) : Ret E 29 [qm e, .agg [zE 1 SV.bool j.fst, .bool j.snd], zE 1 (SV.int .i64) o, SV.fn 35 [qg (zf 6 zl) f.fst, qg (SV.int .i64) f.snd]] (SV.tup [qm r.fst, .bool r.snd]) := by
 refine rg [0, 2] Tryz.func29 h fun h => ?_
 refine zr (fun (d : Int × Int) => [(10, .ptr (12) []), (9, .fls), (8, .ptr (3) []), (3, .fn 35 [qg (zf 6 zl) f.fst, qg (SV.int .i64) f.snd])]) (fun d => [(12, .var true (SV.agg [SV.int .i64 e.Kind, SV.int .i64 e.Rank, zE 1 (SV.int .i64) d, SV.nils])), (3, .var true (SV.agg [SV.int .i64 0, SV.int .i64 0, SV.arr 2 1 [SV.int .i64 0, SV.int .i64 0], SV.nils]))]) 13 h (fun d h => ?_) (fun z k w h => ?_)
 refine zb h (fun _ => zov) fun p h => za h (fun _ h => ?_) fun _ h => ?_
 cases h
 exact (.tup (WkT.wk (.agg (.cons .refl (.cons .refl (.cons .refl (.cons .nils .nil))))) rfl rfl rfl (WkT.same WkT.nil)))
 refine zr (fun (g : List Int) => [(10, .ptr (12) []), (9, .fls), (8, .ptr (3) [])]) (fun g => [(12, .var true (SV.agg [SV.int .i64 e.Kind, SV.int .i64 e.Rank, zE 1 (SV.int .i64) d, SV.osl 27 1])), (27, .row true 1 (List.map (SV.int .i64) g)), (3, .var true (SV.agg [SV.int .i64 0, SV.int .i64 0, SV.arr 2 1 [SV.int .i64 0, SV.int .i64 0], SV.nils]))]) 28 h (fun g h => ?_) (fun A l m h => ?_)
 cases h; exact .r
 refine zo (fun (c : Int × List Int) => [(52, .int .i64 (c.fst)), (51, .int .i64 (p.fst)), (10, .ptr (12) []), (9, .fls), (8, .ptr (3) []), (3, .fn 35 [qg (zf 6 zl) f.fst, qg (SV.int .i64) f.snd])]) (fun c => [(12, .var true (SV.agg [SV.int .i64 e.Kind, SV.int .i64 e.Rank, zE 1 (SV.int .i64) d, SV.osl 27 1])), (27, .row true 1 (List.map (SV.int .i64) c.snd)), (3, .var true (SV.agg [SV.int .i64 0, SV.int .i64 0, SV.arr 2 1 [SV.int .i64 0, SV.int .i64 0], SV.nils]))]) 28 h (.trans (zee (b := 12) (sz := 1) rfl rfl (.agg (.cons .refl (.cons .refl (.cons .refl (.cons .nil .nil)))))) zd) (fun c x C n h => ?_)
 refine za h ?_ ?_ <;> intro _ h
 refine zb h (fun _ => zBu) fun D h => za h (fun _ h => ?_) fun _ h => ?_
 refine m ?_
 cases h
 exact (.tup (WkT.wk (.agg (.cons .refl (.cons .refl (.cons .refl (.cons .nils .nil))))) rfl rfl rfl (WkT.same WkT.nil)))
 refine zb h (fun _ => zDu) fun q h => zk h fun _ h => ze h fun s h => ?_
 exact n ((s, c.snd ++ [q])) h (qa ⟨.refl _, .refl _, .refl _, .refl _, .refl _, .refl _, trivial⟩ ⟨.refl, (.row (.appm .refl (.cons .refl .refl))), .refl, trivial⟩ rfl rfl rfl)
 exact l (c.snd) h zd
 refine zo (fun (a : Int × Int × Int) => [(27, .int .i64 (a.fst)), (26, (zE 1 SV.bool) (j.fst)), (10, .ptr (12) []), (9, .fls), (8, .ptr (3) []), (6, .ptr (2) []), (3, .fn 35 [qg (zf 6 zl) f.fst, qg (SV.int .i64) f.snd])]) (fun a => [(12, .var true (SV.agg [SV.int .i64 e.Kind, SV.int .i64 e.Rank, zE 1 (SV.int .i64) a.snd, SV.nils])), (3, .var true (SV.agg [SV.int .i64 0, SV.int .i64 0, SV.arr 2 1 [SV.int .i64 0, SV.int .i64 0], SV.nils])), (2, .var true ((zE 1 (SV.int .i64)) o))]) 17 h zd (fun a y F i h => ?_)
 refine za h ?_ ?_ <;> intro _ h
 refine zm SV.bool h (by first | (simp only [zf, zn, List.map_append, List.map_take, List.map_drop, List.map_set, List.map_replicate]; done) | (simp [zf, zn, List.map_append, List.map_take, List.map_drop, List.map_set, List.map_replicate]; done) | rfl) fun G h => za h (fun _ h => ?_) fun _ h => ?_
 refine zk h fun _ h => zm (SV.int .i64) h (by first | (simp only [zf, zn, List.map_append, List.map_take, List.map_drop, List.map_set, List.map_replicate]; done) | (simp [zf, zn, List.map_append, List.map_take, List.map_drop, List.map_set, List.map_replicate]; done) | rfl) fun t h => ?_
 refine zk h fun _ h => zm (SV.int .i64) h (by first | (simp only [zf, zn, List.map_append, List.map_take, List.map_drop, List.map_set, List.map_replicate]; done) | (simp [zf, zn, List.map_append, List.map_take, List.map_drop, List.map_set, List.map_replicate]; done) | rfl) fun _ h => ?_
 refine ze h fun u h => ?_
 exact i ((u, qv a.snd (Int.toNat a.fst) t)) h (qa ⟨.refl _, .refl _, .refl _, .refl _, .refl _, .refl _, .refl _, trivial⟩ ⟨(.var (.agg (.cons .refl (.cons .refl (.cons (.arr (.of (by simp only [uc, qv]; (repeat' split) <;> first | rfl | (exfalso; omega)))) (.cons .refl .nil)))))), .refl, .refl, trivial⟩ rfl rfl rfl)
 refine ze h fun v h => ?_
 exact i ((v, a.snd)) h zd
 exact k (a.snd) h zd
theorem zC7 {b : Int} {a : (Bool × Bool) × Bool} {c : List TW} {d : List TW} {r : TW} (h : zlm b a c d = some r) : Ret E 34 [SV.int .i64 b, .agg [zE 1 SV.bool a.fst, .bool a.snd], qg (zf 6 zl) c, qg (zf 6 zl) d] (zl r) := by
 refine rg [] Tryz.func34 h fun h => ?_
 refine zm zl h rfl fun _ h => za h (fun _ h => ?_) fun _ h => ?_
 cases h; exact .r
 refine zm zl h rfl fun _ h => zb h (fun _ => zCy) fun e h => za h (fun _ h => ?_) fun _ h => ?_
 cases h; exact .r
 cases h; exact .r
theorem zDo {c : TP} {i : Int} {d : List TW × List TW} {r : List TW × Int} (h : zrq c i d = some r) : Ret E 27 [qg zJ c, SV.int .i64 i, SV.fn 34 [qg (zf 6 zl) d.fst, qg (zf 6 zl) d.snd]] (SV.tup [zf 6 zl r.fst, SV.int .i64 r.snd]) := by
 refine rg [0] Tryz.func27 h fun h => ?_
 refine zN h (fun j h => ?_) (fun j h => ?_)
 cases h; exact .r
 refine za h ?_ ?_ <;> intro _ h
 cases h; exact .r
 refine zr (fun (b : List TW) => [(8, .osl (14) 6), (7, .int .i64 0), (6, .osl 0 6)]) (fun b => [(14, .row true 6 (List.map zl b)), (0, .row true 6 [])]) 15 h (fun b h => ?_) (fun n e f h => ?_)
 cases h; exact .r
 refine zo (fun (a : Int × List TW) => [(31, .int .i64 (a.fst)), (30, .int .i64 ((↑(List.length (List.map qd c.Vars)) : Int))), (29, (zf 6 qd) (c.Vars)), (8, .osl (14) 6), (7, .int .i64 0), (6, .osl 0 6), (2, .fn 34 [qg (zf 6 zl) d.fst, qg (zf 6 zl) d.snd]), (1, .int .i64 i), (0, (qg zJ) c)]) (fun a => [(14, .row true 6 (List.map zl a.snd)), (0, .row true 6 [])]) 21 h zd (fun a m o g h => ?_)
 refine za h ?_ ?_ <;> intro _ h
 refine zm qd h rfl fun _ h => zb h (fun _ => zAz) fun _ h => za h (fun _ h => ?_) fun _ h => ?_
 refine f ?_
 cases h; exact .r
 refine zb h (fun _ => zC7) fun k h => zk h fun _ h => ze h fun l h => ?_
 exact g ((l, a.snd ++ [k])) h (qa ⟨.refl _, .refl _, .refl _, .refl _, .refl _, .refl _, .refl _, .refl _, .refl _, trivial⟩ ⟨(.row (.appm .refl (.cons .refl .refl))), .refl, trivial⟩ rfl rfl rfl)
 exact e (a.snd) h zd
theorem zDv {a : TP} {b : List TW} {c : List TW} {d : Int} {r : List TW × Int} (h : zlr a b c d = some r) : Ret E 10 [zJ a, zf 6 zl b, zf 6 zl c, SV.int .i64 d] (SV.tup [zf 6 zl r.fst, SV.int .i64 r.snd]) := by
 refine rg [] Tryz.func10 h fun h => ?_
 refine zb h (fun _ => zA7) fun _ h => za h (fun _ h => ?_) fun _ h => ?_
 cases h; exact .r
 refine zb h (fun _ => zDo) fun e h => ?_
 cases h; exact .r
theorem zC0 {a : TP} {b : List TW} {c : List TW} {r : Int} (h : zr8 a b c = some r) : Ret E 37 [zJ a, zf 6 zl b, zf 6 zl c] (SV.int .i64 r) := by
 refine rg [] Tryz.func37 h fun h => ?_
 refine zb h (fun _ => zr3) fun d h => za h (fun _ h => ?_) fun _ h => ?_
 refine zb h (fun _ => zr3) fun e h => ?_
 cases h; exact .r
 cases h; exact .r
theorem zCs {c : Int} {d : Int × Int} {e : Int} {r : (Int × Int) × Int} (h : zlv c d e = some r) : Ret E 63 [SV.int .i64 c, zE 1 (SV.int .i64) d, SV.int .i64 e] (SV.tup [zE 1 (SV.int .i64) r.fst, SV.int .i64 r.snd]) := by
 refine rg [] Tryz.func63 h fun h => ?_
 refine zb h (fun _ => zl7) fun _ h => za h (fun _ h => ?_) fun _ h => ?_
 refine zN h (fun a h => ?_) (fun a h => ?_)
 refine pT ?_
 cases h; exact .r
 refine za h ?_ ?_ <;> intro _ h
 refine pT ?_
 cases h; exact .r
 refine za h (fun b h => ?_) (fun b h => ?_)
 cases h; exact .r
 refine za h ?_ ?_ <;> intro _ h
 refine zO (by decide) ?_
 refine zp (by decide) rfl ?_
 refine zk h fun _ h => ze h fun f h => ?_
 refine zO (by decide) ?_
 refine zp (by decide) rfl ?_
 refine zk h fun _ h => ?_
 cases h; exact .r
 cases h; exact .r
 refine za h ?_ ?_ <;> intro _ h
 cases h; exact .r
 refine za h ?_ ?_ <;> intro _ h
 refine zO (by decide) ?_
 refine zp (by decide) rfl ?_
 refine zk h fun _ h => ze h fun g h => ?_
 refine zO (by decide) ?_
 refine zp (by decide) rfl ?_
 refine zk h fun _ h => ?_
 cases h; exact .r
 cases h; exact .r
theorem zDt {e : Int} {f : Int × Int} {g : Int × Int} {r : Int × Int} (h : zma e f g = some r) : Ret E 86 [SV.int .i64 e, zE 1 (SV.int .i64) f, zE 1 (SV.int .i64) g] (SV.tup [SV.int .i64 r.fst, SV.int .i64 r.snd]) := by
 refine rg [0] Tryz.func86 h fun h => ?_
 refine zb h (fun _ => zzc) fun s h => za h (fun _ h => ?_) fun _ h => ?_
 cases h; exact .r
 refine zr (fun (d : Unit) => [(7, .int .i64 0), (6, .int .i64 0), (5, .ptr (1) []), (4, .ptr 0 []), (0, .int .i64 e)]) (fun d => [(1, .var true ((zE 1 (SV.int .i64)) g)), (0, .var true ((zE 1 (SV.int .i64)) f))]) 2 h (fun d h => ?_) (fun t i a h => ?_)
 refine za h ?_ ?_ <;> intro _ h
 refine zO (by decide) ?_
 refine zp (by decide) rfl ?_
 refine zO (by decide) ?_
 refine zp (by decide) rfl ?_
 refine ze h fun _ h => ?_
 refine zO (by decide) ?_
 refine zp (by decide) rfl ?_
 refine ze h fun _ h => ?_
 cases h; exact .r
 refine zO (by decide) ?_
 refine zp (by decide) rfl ?_
 cases h; exact .r
 refine zo (fun (c : Int) => [(9, .int .i64 c), (7, .int .i64 0), (6, .int .i64 0), (5, .ptr (1) []), (4, .ptr 0 []), (0, .int .i64 e)]) (fun c => [(1, .var true ((zE 1 (SV.int .i64)) g)), (0, .var true ((zE 1 (SV.int .i64)) f))]) 11 h zd (fun c q u b h => ?_)
 refine za h (fun j h => ?_) (fun j h => ?_)
 refine za h ?_ ?_ <;> intro _ h
 refine zk h fun _ h => zm (SV.int .i64) h (by first | (simp only [zf, zn, List.map_append, List.map_take, List.map_drop, List.map_set, List.map_replicate]; done) | (simp [zf, zn, List.map_append, List.map_take, List.map_drop, List.map_set, List.map_replicate]; done) | rfl) fun v h => ?_
 refine zN h (fun k h => ?_) (fun k h => ?_)
 refine a ?_
 cases h; exact .r
 refine zk h fun _ h => zm (SV.int .i64) h (by first | (simp only [zf, zn, List.map_append, List.map_take, List.map_drop, List.map_set, List.map_replicate]; done) | (simp [zf, zn, List.map_append, List.map_take, List.map_drop, List.map_set, List.map_replicate]; done) | rfl) fun w h => ?_
 refine zk h fun _ h => zm (SV.int .i64) h (by first | (simp only [zf, zn, List.map_append, List.map_take, List.map_drop, List.map_set, List.map_replicate]; done) | (simp [zf, zn, List.map_append, List.map_take, List.map_drop, List.map_set, List.map_replicate]; done) | rfl) fun x h => ?_
 refine zN h (fun l h => ?_) (fun l h => ?_)
 refine a ?_
 cases h; exact .r
 refine za h ?_ ?_ <;> intro _ h
 refine zk h fun _ h => zm (SV.int .i64) h (by first | (simp only [zf, zn, List.map_append, List.map_take, List.map_drop, List.map_set, List.map_replicate]; done) | (simp [zf, zn, List.map_append, List.map_take, List.map_drop, List.map_set, List.map_replicate]; done) | rfl) fun y h => ?_
 refine za h ?_ ?_ <;> intro _ h
 refine a ?_
 cases h; exact .r
 refine ze h fun m h => ?_
 exact b m h zd
 refine ze h fun n h => ?_
 exact b n h zd
 refine za h ?_ ?_ <;> intro _ h
 refine zk h fun _ h => zm (SV.int .i64) h (by first | (simp only [zf, zn, List.map_append, List.map_take, List.map_drop, List.map_set, List.map_replicate]; done) | (simp [zf, zn, List.map_append, List.map_take, List.map_drop, List.map_set, List.map_replicate]; done) | rfl) fun z h => ?_
 refine za h ?_ ?_ <;> intro _ h
 refine a ?_
 cases h; exact .r
 refine ze h fun o h => ?_
 exact b o h zd
 refine ze h fun p h => ?_
 exact b p h zd
 exact i (()) h zd
theorem zC9 {a : TA} {b : Int × Int} {r : Int × Int} (h : zlo a b = some r) : Ret E 64 [qm a, zE 1 (SV.int .i64) b] (SV.tup [SV.int .i64 r.fst, SV.int .i64 r.snd]) := by
 refine rg [] Tryz.func64 h fun h => ?_
 refine zb h (fun _ => zri) fun c h => za h (fun _ h => ?_) fun _ h => ?_
 cases h; exact .r
 refine zb h (fun _ => zDt) fun _ h => za h (fun _ h => ?_) fun _ h => ?_
 cases h; exact .r
 refine zm (SV.int .i64) h rfl fun _ h => ?_
 cases h; exact .r
theorem zzl {j : (Bool × Bool) × Bool} {d : TA} {i : TA} {r : TA} (h : ze3 j d i = some r) : Ret E 38 [SV.agg [zE 1 SV.bool j.fst, .bool j.snd], qm d, qm i] (qm r) := by
 refine rg [0, 2] Tryz.func38 h fun h => ?_
 refine za h ?_ ?_ <;> intro _ h
 cases h; exact .r
 refine zr (fun (e : Int × Int) => [(7, .ptr (13) []), (6, .ptr (3) []), (5, .ptr (2) []), (4, .ptr (1) [])]) (fun e => [(13, .var true (SV.agg [SV.int .i64 d.Kind, SV.int .i64 d.Rank, zE 1 (SV.int .i64) e, SV.nils])), (3, .var true (SV.agg [SV.int .i64 0, SV.int .i64 0, SV.arr 2 1 [SV.int .i64 0, SV.int .i64 0], SV.nils])), (2, .var true (qm i)), (1, .var true (qm d))]) 14 h (fun e h => ?_) (fun z k u h => ?_)
 refine zb h (fun _ => zl7) fun n h => za h (fun _ h => ?_) fun _ h => ?_
 cases h; exact .r
 refine zr (fun (f : List Int) => [(7, .ptr (13) []), (6, .ptr (3) [])]) (fun f => [(13, .var true (SV.agg [SV.int .i64 d.Kind, SV.int .i64 d.Rank, zE 1 (SV.int .i64) e, SV.osl 27 1])), (27, .row true 1 (List.map (SV.int .i64) f)), (3, .var true (SV.agg [SV.int .i64 0, SV.int .i64 0, SV.arr 2 1 [SV.int .i64 0, SV.int .i64 0], SV.nils]))]) 28 h (fun f h => ?_) (fun A l v h => ?_)
 cases h; exact .r
 refine zo (fun (c : Int × List Int) => [(11, .int .i64 (c.fst)), (9, .int .i64 (n.fst)), (7, .ptr (13) []), (6, .ptr (3) []), (5, .ptr (2) [])]) (fun c => [(13, .var true (SV.agg [SV.int .i64 d.Kind, SV.int .i64 d.Rank, zE 1 (SV.int .i64) e, SV.osl 27 1])), (27, .row true 1 (List.map (SV.int .i64) c.snd)), (3, .var true (SV.agg [SV.int .i64 0, SV.int .i64 0, SV.arr 2 1 [SV.int .i64 0, SV.int .i64 0], SV.nils])), (2, .var true (qm i))]) 28 h (.trans (zee (b := 13) (sz := 1) rfl rfl (.agg (.cons .refl (.cons .refl (.cons .refl (.cons .nil .nil)))))) zd) (fun c w C m h => ?_)
 refine za h ?_ ?_ <;> intro _ h
 refine zb h (fun _ => zCs) fun D h => zb h (fun _ => zC9) fun o h => zk h fun _ h => ze h fun p h => ?_
 exact m ((p, c.snd ++ [o.fst])) h (qa ⟨.refl _, .refl _, .refl _, .refl _, .refl _, trivial⟩ ⟨.refl, (.row (.appm .refl (.cons .refl .refl))), .refl, .refl, trivial⟩ rfl rfl rfl)
 exact l (c.snd) h zd
 refine zo (fun (a : Int × Int × Int) => [(8, .int .i64 (a.fst)), (7, .ptr (13) []), (6, .ptr (3) []), (5, .ptr (2) []), (4, .ptr (1) []), (3, .ptr 0 [])]) (fun a => [(13, .var true (SV.agg [SV.int .i64 d.Kind, SV.int .i64 d.Rank, zE 1 (SV.int .i64) a.snd, SV.nils])), (3, .var true (SV.agg [SV.int .i64 0, SV.int .i64 0, SV.arr 2 1 [SV.int .i64 0, SV.int .i64 0], SV.nils])), (2, .var true (qm i)), (1, .var true (qm d)), (0, .var true ((fun (x : (Bool × Bool) × Bool) => SV.agg [zE 1 SV.bool x.fst, .bool x.snd]) j))]) 16 h zd (fun a y F g h => ?_)
 refine za h ?_ ?_ <;> intro _ h
 refine zk h fun _ h => zm SV.bool h (by first | (simp only [zf, zn, List.map_append, List.map_take, List.map_drop, List.map_set, List.map_replicate]; done) | (simp [zf, zn, List.map_append, List.map_take, List.map_drop, List.map_set, List.map_replicate]; done) | rfl) fun G h => ?_
 refine za h ?_ ?_ <;> intro _ h
 refine zk h fun _ h => zm (SV.int .i64) h (by first | (simp only [zf, zn, List.map_append, List.map_take, List.map_drop, List.map_set, List.map_replicate]; done) | (simp [zf, zn, List.map_append, List.map_take, List.map_drop, List.map_set, List.map_replicate]; done) | rfl) fun q h => ?_
 refine zk h fun _ h => zm (SV.int .i64) h (by first | (simp only [zf, zn, List.map_append, List.map_take, List.map_drop, List.map_set, List.map_replicate]; done) | (simp [zf, zn, List.map_append, List.map_take, List.map_drop, List.map_set, List.map_replicate]; done) | rfl) fun H h => ?_
 refine ze h fun s h => ?_
 exact g ((s, qv a.snd (Int.toNat a.fst) q)) h (qa ⟨.refl _, .refl _, .refl _, .refl _, .refl _, .refl _, trivial⟩ ⟨(.var (.agg (.cons .refl (.cons .refl (.cons (.arr (.of (by simp only [uc, qv]; (repeat' split) <;> first | rfl | (exfalso; omega)))) (.cons .refl .nil)))))), .refl, .refl, .refl, .refl, trivial⟩ rfl rfl rfl)
 refine ze h fun t h => ?_
 exact g ((t, a.snd)) h zd
 exact k (a.snd) h zd
theorem zCt {e : TP} {f : List TW} {g : List TW} {i : Int} {r : List TW × Int} (h : zlp e f g i = some r) : Ret E 11 [zJ e, zf 6 zl f, zf 6 zl g, SV.int .i64 i] (SV.tup [zf 6 zl r.fst, SV.int .i64 r.snd]) := by
 refine rg [0] Tryz.func11 h fun h => ?_
 refine zb h (fun _ => zC0) fun z h => za h (fun _ h => ?_) fun _ h => ?_
 refine zb h (fun _ => zzb) fun _ h => za h (fun _ h => ?_) fun _ h => ?_
 cases h; exact .r
 refine zr (fun (c : List TW) => [(11, .osl (16) 6), (9, .int .i64 0), (8, .osl (1) 6)]) (fun c => [(16, .row true 6 (List.map zl c)), (1, .row true 6 [])]) 17 h (fun c h => ?_) (fun A j v h => ?_)
 cases h; exact .r
 refine zo (fun (a : Int × List TW) => [(12, .int .i64 (a.fst)), (11, .osl (16) 6), (9, .int .i64 0), (8, .osl (1) 6), (4, .ptr 0 []), (3, .int .i64 i), (2, (zf 6 zl) g), (1, (zf 6 zl) f)]) (fun a => [(16, .row true 6 (List.map zl a.snd)), (1, .row true 6 []), (0, .var true (zJ e))]) 18 h zd (fun a w C k h => ?_)
 refine za h ?_ ?_ <;> intro _ h
 refine zm zl h rfl fun n h => zm qd h rfl fun _ h => zb h (fun _ => zll) fun D h => zm zl h rfl fun F h => zm zl h rfl fun G h => zb h (fun _ => zzl) fun o h => zk h fun _ h => ze h fun p h => ?_
 exact k ((p, a.snd ++ [TW.mk n.Name o])) h (qa ⟨.refl _, .refl _, .refl _, .refl _, .refl _, .refl _, .refl _, .refl _, trivial⟩ ⟨(.row (.appm .refl (.cons .refl .refl))), .refl, .refl, trivial⟩ rfl rfl rfl)
 exact j (a.snd) h zd
 refine za h ?_ ?_ <;> intro _ h
 cases h; exact .r
 refine zr (fun (d : List TW) => [(11, .osl (12) 6), (9, .int .i64 0), (8, .osl (1) 6)]) (fun d => [(12, .row true 6 (List.map zl d)), (1, .row true 6 [])]) 13 h (fun d h => ?_) (fun H l x h => ?_)
 cases h; exact .r
 refine zo (fun (b : Int × List TW) => [(12, .int .i64 (b.fst)), (11, .osl (12) 6), (9, .int .i64 0), (8, .osl (1) 6), (4, .ptr 0 []), (3, .int .i64 i), (2, (zf 6 zl) g), (1, (zf 6 zl) f)]) (fun b => [(12, .row true 6 (List.map zl b.snd)), (1, .row true 6 []), (0, .var true (zJ e))]) 14 h zd (fun b y I m h => ?_)
 refine za h (fun q h => ?_) (fun q h => ?_)
 refine zm zl h rfl fun s h => zm qd h rfl fun J h => zb h (fun _ => zll) fun K h => zm zl h rfl fun L h => zm zl h rfl fun M h => zb h (fun _ => zzl) fun t h => zk h fun _ h => ze h fun u h => ?_
 exact m ((u, b.snd ++ [TW.mk s.Name t])) h (qa ⟨.refl _, .refl _, .refl _, .refl _, .refl _, .refl _, .refl _, .refl _, trivial⟩ ⟨(.row (.appm .refl (.cons .refl .refl))), .refl, .refl, trivial⟩ rfl rfl rfl)
 exact l (b.snd) h zd
theorem zDj {a : TA} {b : TA} {r : Bool} (h : zre a b = some r) : Ret E 42 [qm a, qm b] (SV.bool r) := by
 refine rg [] Tryz.func42 h fun h => ?_
 refine za h ?_ ?_ <;> intro _ h
 refine za h ?_ ?_ <;> intro _ h
 cases h; exact .r
 cases h; exact .r
 cases h; exact .r
theorem zDr {e : TA} {f : TA} {r : Bool} (h : zlx e f = some r) : Ret E 17 [qm e, qm f] (SV.bool r) := by
 refine rg [0] Tryz.func17 h fun h => ?_
 refine zb h (fun _ => zDj) fun _ h => ?_
 refine zN h (fun g h => ?_) (fun g h => ?_)
 cases h; exact .r
 refine za h ?_ ?_ <;> intro _ h
 cases h; exact .r
 refine zr (fun (i : Unit) => [(4, .fls)]) (fun _ => []) 1 h (fun i h => ?_) (fun l b c h => ?_)
 cases h; exact .r
 refine zo (fun (a : Int) => [(5, .int .i64 a), (4, .fls), (3, .ptr (1) []), (2, .ptr 0 [])]) (fun a => [(1, .var true (qm f)), (0, .var true (qm e))]) 17 h zd (fun a k m d h => ?_)
 refine za h ?_ ?_ <;> intro _ h
 refine zm (SV.int .i64) h rfl fun n h => zm (SV.int .i64) h rfl fun o h => za h (fun _ h => ?_) fun _ h => ?_
 refine c ?_
 cases h; exact .r
 refine ze h fun j h => ?_
 exact d j h zd
 exact b (()) h zd
theorem zza {e : List TW} {f : List TW} {r : Bool} (h : zen e f = some r) : Ret E 12 [zf 6 zl e, zf 6 zl f] (SV.bool r) := by
 refine rg [0] Tryz.func12 h fun h => ?_
 refine za h ?_ ?_ <;> intro _ h
 cases h; exact .r
 refine zr (fun (g : Unit) => [(4, .fls)]) (fun _ => []) 1 h (fun g h => ?_) (fun m c a h => ?_)
 cases h; exact .r
 refine zo (fun (b : Int) => [(5, .int .i64 b), (4, .fls), (1, (zf 6 zl) f), (0, (zf 6 zl) e)]) (fun _ => []) 7 h zd (fun b l n d h => ?_)
 refine za h (fun i h => ?_) (fun i h => ?_)
 refine zm zl h rfl fun _ h => zm zl h rfl fun o h => ?_
 refine zN h (fun j h => ?_) (fun j h => ?_)
 refine a ?_
 cases h; exact .r
 refine zm zl h rfl fun p h => zm zl h rfl fun q h => zb h (fun _ => zDr) fun _ h => za h (fun _ h => ?_) fun _ h => ?_
 refine a ?_
 cases h; exact .r
 refine ze h fun k h => ?_
 exact d k h zd
 exact c (()) h zd
theorem zDy {a : TP} {b : List TW × List TW} {c : Int} {r : Bool} (h : zr2 a b c = some r) : Ret E 3 [zJ a, zE 1 (zf 6 zl) b, SV.int .i64 c] (SV.bool r) := by
 refine rg [] Tryz.func3 h fun h => ?_
 refine zO (by decide) ?_
 refine zp (by decide) rfl ?_
 refine zO (by decide) ?_
 refine zp (by decide) rfl ?_
 refine zb h (fun _ => Rz4) fun _ h => za h (fun _ h => ?_) fun _ h => ?_
 refine call L_invigilatorlaw32_awake ?_
 cases h; exact .r
 refine zO (by decide) ?_
 refine zp (by decide) rfl ?_
 refine zb h (fun _ => zEn) fun _ h => ?_
 refine zO (by decide) ?_
 refine zp (by decide) rfl ?_
 refine zb h (fun _ => zCw) fun _ h => ?_
 refine zO (by decide) ?_
 refine zp (by decide) rfl ?_
 refine zO (by decide) ?_
 refine zp (by decide) rfl ?_
 refine zb h (fun _ => zDv) fun _ h => ?_
 refine zO (by decide) ?_
 refine zp (by decide) rfl ?_
 refine zO (by decide) ?_
 refine zp (by decide) rfl ?_
 refine zb h (fun _ => zCt) fun d h => zb h (fun _ => zza) fun _ h => za h (fun _ h => ?_) fun _ h => ?_
 refine za h ?_ ?_ <;> intro _ h
 refine zb h (fun _ => zza) fun _ h => za h (fun _ h => ?_) fun _ h => ?_
 refine za h ?_ ?_ <;> intro _ h
 refine call L_invigilatorlaw32_awake ?_
 cases h; exact .r
 cases h; exact .r
 cases h; exact .r
 cases h; exact .r
 cases h; exact .r
end Go.Sx.Tz
