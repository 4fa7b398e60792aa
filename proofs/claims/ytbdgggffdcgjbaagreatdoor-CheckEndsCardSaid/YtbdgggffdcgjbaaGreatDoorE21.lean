/- A part of the proof that CheckEnds returns true at every number: EvTab EvLay. Conditions: none. -/
import Derived.Test.YtbdgggffdcgjbaaGreatDoorE15
import Derived.Test.YtbdgggffdcgjbaaGreatDoorE16
import Derived.Test.YtbdgggffdcgjbaaGreatDoorE17
import Derived.Test.YtbdgggffdcgjbaaGreatDoorE18
import Derived.Test.YtbdgggffdcgjbaaGreatDoorE19
import Derived.Test.YtbdgggffdcgjbaaGreatDoorE20
import Derived.Test.YtbdgggffdcgjbaaGreatDoorE14
import Derived.Test.YtbdgggffdcgjbaaGreatDoorE09
import Derived.Shelf.SlLaysF0
set_option linter.all false
set_option linter.unusedVariables false
set_option linter.unusedSectionVars false
set_option linter.unusedSimpArgs false
namespace Go.Ev
set_option autoImplicit false
set_option maxRecDepth 100000
open Go Go.Proofs

instance : Rounds := ⟨fun f ps s bd sz => ∃ fn c, Tryz.prog.funcs[f]? = some fn ∧ fn.body = some c ∧ (ps, s, bd) ∈ rangesOf c ∧ sz = fn.ntmps, hintOf⟩

/-- all that a table holds -/
def AllN {α : Type} (Q : Nat → α → Prop) : PM α → Nat → Nat → Prop
  | .e, _, _ => True
  | .n l v r, a, b => (∀ x, v = some x → Q b x) ∧ AllN Q l (2 * a) (a + b) ∧ AllN Q r (2 * a) (2 * a + b)
theorem AllN_get {α : Type} {Q : Nat → α → Prop} : ∀ {t : PM α} {a b : Nat}, AllN Q t a b → ∀ (n : Nat) (x : α), t.getN n = some x → Q (a * n + b) x := by
  intro t
  induction t with
  | e => intro a b _ n x h; cases h
  | n l v r ihl ihr =>
    intro a b hA n x h
    obtain ⟨h1, h2, h3⟩ := hA
    have e : (PM.n l v r).getN n = @Bool.rec (fun _ => Option α) (@Bool.rec (fun _ => Option α) (r.getN (Nat.sub (Nat.div n 2) 1)) (l.getN (Nat.div n 2)) (Nat.beq (Nat.mod n 2) 1)) v (Nat.beq n 0) := rfl
    rw [e] at h
    cases hz : Nat.beq n 0 with
    | true =>
      rw [hz] at h
      rw [beq_iff.1 hz, Nat.mul_zero, Nat.zero_add]
      exact h1 x h
    | false =>
      rw [hz] at h
      have hn : n ≠ 0 := fun e => by rw [beq_iff.2 e] at hz; cases hz
      cases ho : Nat.beq (Nat.mod n 2) 1 with
      | true =>
        rw [ho] at h
        have := ihl h2 (n / 2) x h
        have h9 : n % 2 = 1 := beq_iff.1 ho
        have e2 : a * n + b = 2 * a * (n / 2) + (a + b) := by
          have : n = 2 * (n / 2) + 1 := by omega
          conv => lhs; rw [this, Nat.mul_add, Nat.mul_one]
          rw [Nat.mul_comm 2 a, Nat.mul_assoc]; omega
        rw [e2]; exact this
      | false =>
        rw [ho] at h
        have := ihr h3 (n / 2 - 1) x h
        have h9 : n % 2 ≠ 1 := fun e => by rw [beq_iff.2 (show Nat.mod n 2 = 1 from e)] at ho; cases ho
        have e2 : a * n + b = 2 * a * (n / 2 - 1) + (2 * a + b) := by
          obtain ⟨k, hk⟩ : ∃ k, n = 2 * (k + 1) := ⟨n / 2 - 1, by omega⟩
          have : n / 2 - 1 = k := by omega
          rw [this, hk, ← Nat.mul_assoc, Nat.mul_comm a 2, Nat.mul_add, Nat.mul_one]; omega
        rw [e2]; exact this
theorem sa {α : Type} {Q : Nat → α → Prop} {n : Nat} {x : α} (h : Q n x) : ∀ y, some x = some y → Q n y := fun y e => by cases e; exact h
theorem na {α : Type} {Q : Nat → α → Prop} {n : Nat} : ∀ y : α, none = some y → Q n y := fun y e => by cases e
noncomputable def codeF (f : FuncId) : Option CFn := codeT.getN f
noncomputable def codeDF (f : FuncId) : Option (Nat × Nat × Nat × CCode) := codeTD.getN f
noncomputable def codeRF (f : FuncId) : Option (List Nat × CI × CI) := codeTR.getN f
def QC (f : Nat) (c : CFn) : Prop := cFn Tryz.prog hintOf orderHint f = some c ∧ fnChk Tryz.prog (hintOf f) (orderHint f) f = true
def QD (f : Nat) (c : Nat × Nat × Nat × CCode) : Prop := cFnD Tryz.prog hintOf orderHint f = some c ∧ fnChk Tryz.prog (hintOf f) (orderHint f) f = true
def opO (N : Nat) (o : Option (Array Oper)) : Bool := match o with | some ops => ops.toList.all (opIn N) | none => true
def opChk (P : Program) (f : Nat) : Bool := match P.funcs[f]? with
  | some fn => match fn.body with
    | some c => (rangesOf c).all fun x => and (opO fn.ntmps (opsOf x.2.1)) (opO fn.ntmps (opsOf x.2.2))
    | none => true
  | none => true
theorem o125 : opChk Tryz.prog 125 = true := by kernel_rfl
theorem o294 : opChk Tryz.prog 294 = true := by kernel_rfl
theorem o328 : opChk Tryz.prog 328 = true := by kernel_rfl
def QR (f : Nat) (c : List Nat × CI × CI) : Prop := cRnd Tryz.prog hintOf f = some c ∧ opChk Tryz.prog f = true
theorem q3 : QC 3 cf3 := ⟨e3, k3⟩
theorem q4 : QC 4 cf4 := ⟨e4, k4⟩
theorem q5 : QC 5 cf5 := ⟨e5, k5⟩
theorem q6 : QC 6 cf6 := ⟨e6, k6⟩
theorem q7 : QC 7 cf7 := ⟨e7, k7⟩
theorem q8 : QC 8 cf8 := ⟨e8, k8⟩
theorem q9 : QC 9 cf9 := ⟨e9, k9⟩
theorem q10 : QC 10 cf10 := ⟨e10, k10⟩
theorem q11 : QC 11 cf11 := ⟨e11, k11⟩
theorem q14 : QC 14 cf14 := ⟨e14, k14⟩
theorem q15 : QC 15 cf15 := ⟨e15, k15⟩
theorem q16 : QC 16 cf16 := ⟨e16, k16⟩
theorem q17 : QC 17 cf17 := ⟨e17, k17⟩
theorem q18 : QC 18 cf18 := ⟨e18, k18⟩
theorem q19 : QC 19 cf19 := ⟨e19, k19⟩
theorem q20 : QC 20 cf20 := ⟨e20, k20⟩
theorem q21 : QC 21 cf21 := ⟨e21, k21⟩
theorem q22 : QC 22 cf22 := ⟨e22, k22⟩
theorem q24 : QC 24 cf24 := ⟨e24, k24⟩
theorem q25 : QC 25 cf25 := ⟨e25, k25⟩
theorem q26 : QC 26 cf26 := ⟨e26, k26⟩
theorem q27 : QC 27 cf27 := ⟨e27, k27⟩
theorem q28 : QC 28 cf28 := ⟨e28, k28⟩
theorem q29 : QC 29 cf29 := ⟨e29, k29⟩
theorem q30 : QC 30 cf30 := ⟨e30, k30⟩
theorem q31 : QC 31 cf31 := ⟨e31, k31⟩
theorem q32 : QC 32 cf32 := ⟨e32, k32⟩
theorem q33 : QC 33 cf33 := ⟨e33, k33⟩
theorem q35 : QC 35 cf35 := ⟨e35, k35⟩
theorem q36 : QC 36 cf36 := ⟨e36, k36⟩
theorem q37 : QC 37 cf37 := ⟨e37, k37⟩
theorem q38 : QC 38 cf38 := ⟨e38, k38⟩
theorem q39 : QC 39 cf39 := ⟨e39, k39⟩
theorem q40 : QC 40 cf40 := ⟨e40, k40⟩
theorem q41 : QC 41 cf41 := ⟨e41, k41⟩
theorem q42 : QC 42 cf42 := ⟨e42, k42⟩
theorem q43 : QC 43 cf43 := ⟨e43, k43⟩
theorem q44 : QC 44 cf44 := ⟨e44, k44⟩
theorem q45 : QC 45 cf45 := ⟨e45, k45⟩
theorem q46 : QC 46 cf46 := ⟨e46, k46⟩
theorem q47 : QC 47 cf47 := ⟨e47, k47⟩
theorem q50 : QC 50 cf50 := ⟨e50, k50⟩
theorem q51 : QC 51 cf51 := ⟨e51, k51⟩
theorem q52 : QC 52 cf52 := ⟨e52, k52⟩
theorem q53 : QC 53 cf53 := ⟨e53, k53⟩
theorem q54 : QC 54 cf54 := ⟨e54, k54⟩
theorem q55 : QC 55 cf55 := ⟨e55, k55⟩
theorem q56 : QC 56 cf56 := ⟨e56, k56⟩
theorem q63 : QC 63 cf63 := ⟨e63, k63⟩
theorem q64 : QC 64 cf64 := ⟨e64, k64⟩
theorem q65 : QC 65 cf65 := ⟨e65, k65⟩
theorem q66 : QC 66 cf66 := ⟨e66, k66⟩
theorem q75 : QC 75 cf75 := ⟨e75, k75⟩
theorem q76 : QC 76 cf76 := ⟨e76, k76⟩
theorem q77 : QC 77 cf77 := ⟨e77, k77⟩
theorem q78 : QC 78 cf78 := ⟨e78, k78⟩
theorem q79 : QC 79 cf79 := ⟨e79, k79⟩
theorem q80 : QC 80 cf80 := ⟨e80, k80⟩
theorem q81 : QC 81 cf81 := ⟨e81, k81⟩
theorem q82 : QC 82 cf82 := ⟨e82, k82⟩
theorem q86 : QC 86 cf86 := ⟨e86, k86⟩
theorem q87 : QC 87 cf87 := ⟨e87, k87⟩
theorem q90 : QC 90 cf90 := ⟨e90, k90⟩
theorem q92 : QC 92 cf92 := ⟨e92, k92⟩
theorem q94 : QC 94 cf94 := ⟨e94, k94⟩
theorem q95 : QC 95 cf95 := ⟨e95, k95⟩
theorem q96 : QC 96 cf96 := ⟨e96, k96⟩
theorem q97 : QC 97 cf97 := ⟨e97, k97⟩
theorem q98 : QC 98 cf98 := ⟨e98, k98⟩
theorem q99 : QC 99 cf99 := ⟨e99, k99⟩
theorem q100 : QC 100 cf100 := ⟨e100, k100⟩
theorem q101 : QC 101 cf101 := ⟨e101, k101⟩
theorem q102 : QC 102 cf102 := ⟨e102, k102⟩
theorem q103 : QC 103 cf103 := ⟨e103, k103⟩
theorem q104 : QC 104 cf104 := ⟨e104, k104⟩
theorem q105 : QC 105 cf105 := ⟨e105, k105⟩
theorem q106 : QC 106 cf106 := ⟨e106, k106⟩
theorem q107 : QC 107 cf107 := ⟨e107, k107⟩
theorem q108 : QC 108 cf108 := ⟨e108, k108⟩
theorem q109 : QC 109 cf109 := ⟨e109, k109⟩
theorem q110 : QC 110 cf110 := ⟨e110, k110⟩
theorem q113 : QC 113 cf113 := ⟨e113, k113⟩
theorem q114 : QC 114 cf114 := ⟨e114, k114⟩
theorem q115 : QC 115 cf115 := ⟨e115, k115⟩
theorem q116 : QC 116 cf116 := ⟨e116, k116⟩
theorem q118 : QC 118 cf118 := ⟨e118, k118⟩
theorem q119 : QC 119 cf119 := ⟨e119, k119⟩
theorem q120 : QC 120 cf120 := ⟨e120, k120⟩
theorem q121 : QC 121 cf121 := ⟨e121, k121⟩
theorem q122 : QC 122 cf122 := ⟨e122, k122⟩
theorem q123 : QC 123 cf123 := ⟨e123, k123⟩
theorem q125 : QC 125 cf125 := ⟨e125, k125⟩
theorem q126 : QC 126 cf126 := ⟨e126, k126⟩
theorem q127 : QC 127 cf127 := ⟨e127, k127⟩
theorem q128 : QC 128 cf128 := ⟨e128, k128⟩
theorem q129 : QC 129 cf129 := ⟨e129, k129⟩
theorem q130 : QC 130 cf130 := ⟨e130, k130⟩
theorem q131 : QC 131 cf131 := ⟨e131, k131⟩
theorem q132 : QC 132 cf132 := ⟨e132, k132⟩
theorem q134 : QC 134 cf134 := ⟨e134, k134⟩
theorem q135 : QC 135 cf135 := ⟨e135, k135⟩
theorem q136 : QC 136 cf136 := ⟨e136, k136⟩
theorem q143 : QC 143 cf143 := ⟨e143, k143⟩
theorem q144 : QC 144 cf144 := ⟨e144, k144⟩
theorem q145 : QC 145 cf145 := ⟨e145, k145⟩
theorem q146 : QC 146 cf146 := ⟨e146, k146⟩
theorem q149 : QC 149 cf149 := ⟨e149, k149⟩
theorem q150 : QC 150 cf150 := ⟨e150, k150⟩
theorem q151 : QC 151 cf151 := ⟨e151, k151⟩
theorem q152 : QC 152 cf152 := ⟨e152, k152⟩
theorem q155 : QC 155 cf155 := ⟨e155, k155⟩
theorem q158 : QC 158 cf158 := ⟨e158, k158⟩
theorem q162 : QC 162 cf162 := ⟨e162, k162⟩
theorem q163 : QC 163 cf163 := ⟨e163, k163⟩
theorem q164 : QC 164 cf164 := ⟨e164, k164⟩
theorem q165 : QC 165 cf165 := ⟨e165, k165⟩
theorem q166 : QC 166 cf166 := ⟨e166, k166⟩
theorem q167 : QC 167 cf167 := ⟨e167, k167⟩
theorem q168 : QC 168 cf168 := ⟨e168, k168⟩
theorem q170 : QC 170 cf170 := ⟨e170, k170⟩
theorem q171 : QC 171 cf171 := ⟨e171, k171⟩
theorem q172 : QC 172 cf172 := ⟨e172, k172⟩
theorem q173 : QC 173 cf173 := ⟨e173, k173⟩
theorem q174 : QC 174 cf174 := ⟨e174, k174⟩
theorem q175 : QC 175 cf175 := ⟨e175, k175⟩
theorem q176 : QC 176 cf176 := ⟨e176, k176⟩
theorem q177 : QC 177 cf177 := ⟨e177, k177⟩
theorem q178 : QC 178 cf178 := ⟨e178, k178⟩
theorem q181 : QC 181 cf181 := ⟨e181, k181⟩
theorem q182 : QC 182 cf182 := ⟨e182, k182⟩
theorem q183 : QC 183 cf183 := ⟨e183, k183⟩
theorem q185 : QC 185 cf185 := ⟨e185, k185⟩
theorem q191 : QC 191 cf191 := ⟨e191, k191⟩
theorem q192 : QC 192 cf192 := ⟨e192, k192⟩
theorem q193 : QC 193 cf193 := ⟨e193, k193⟩
theorem q194 : QC 194 cf194 := ⟨e194, k194⟩
theorem q195 : QC 195 cf195 := ⟨e195, k195⟩
theorem q196 : QC 196 cf196 := ⟨e196, k196⟩
theorem q197 : QC 197 cf197 := ⟨e197, k197⟩
theorem q198 : QC 198 cf198 := ⟨e198, k198⟩
theorem q200 : QC 200 cf200 := ⟨e200, k200⟩
theorem q201 : QC 201 cf201 := ⟨e201, k201⟩
theorem q207 : QC 207 cf207 := ⟨e207, k207⟩
theorem q208 : QC 208 cf208 := ⟨e208, k208⟩
theorem q209 : QC 209 cf209 := ⟨e209, k209⟩
theorem q210 : QC 210 cf210 := ⟨e210, k210⟩
theorem q211 : QC 211 cf211 := ⟨e211, k211⟩
theorem q212 : QC 212 cf212 := ⟨e212, k212⟩
theorem q213 : QC 213 cf213 := ⟨e213, k213⟩
theorem q214 : QC 214 cf214 := ⟨e214, k214⟩
theorem q215 : QC 215 cf215 := ⟨e215, k215⟩
theorem q216 : QC 216 cf216 := ⟨e216, k216⟩
theorem q217 : QC 217 cf217 := ⟨e217, k217⟩
theorem q218 : QC 218 cf218 := ⟨e218, k218⟩
theorem q219 : QC 219 cf219 := ⟨e219, k219⟩
theorem q220 : QC 220 cf220 := ⟨e220, k220⟩
theorem q222 : QC 222 cf222 := ⟨e222, k222⟩
theorem q231 : QC 231 cf231 := ⟨e231, k231⟩
theorem q241 : QC 241 cf241 := ⟨e241, k241⟩
theorem q242 : QC 242 cf242 := ⟨e242, k242⟩
theorem q243 : QC 243 cf243 := ⟨e243, k243⟩
theorem q244 : QC 244 cf244 := ⟨e244, k244⟩
theorem q245 : QC 245 cf245 := ⟨e245, k245⟩
theorem q246 : QC 246 cf246 := ⟨e246, k246⟩
theorem q249 : QC 249 cf249 := ⟨e249, k249⟩
theorem q250 : QC 250 cf250 := ⟨e250, k250⟩
theorem q251 : QC 251 cf251 := ⟨e251, k251⟩
theorem q252 : QC 252 cf252 := ⟨e252, k252⟩
theorem q253 : QC 253 cf253 := ⟨e253, k253⟩
theorem q254 : QC 254 cf254 := ⟨e254, k254⟩
theorem q255 : QC 255 cf255 := ⟨e255, k255⟩
theorem q263 : QC 263 cf263 := ⟨e263, k263⟩
theorem q273 : QC 273 cf273 := ⟨e273, k273⟩
theorem q275 : QC 275 cf275 := ⟨e275, k275⟩
theorem q276 : QC 276 cf276 := ⟨e276, k276⟩
theorem q277 : QC 277 cf277 := ⟨e277, k277⟩
theorem q278 : QC 278 cf278 := ⟨e278, k278⟩
theorem q279 : QC 279 cf279 := ⟨e279, k279⟩
theorem q280 : QC 280 cf280 := ⟨e280, k280⟩
theorem q281 : QC 281 cf281 := ⟨e281, k281⟩
theorem q282 : QC 282 cf282 := ⟨e282, k282⟩
theorem q283 : QC 283 cf283 := ⟨e283, k283⟩
theorem q284 : QC 284 cf284 := ⟨e284, k284⟩
theorem q285 : QC 285 cf285 := ⟨e285, k285⟩
theorem q286 : QC 286 cf286 := ⟨e286, k286⟩
theorem q288 : QC 288 cf288 := ⟨e288, k288⟩
theorem q294 : QC 294 cf294 := ⟨e294, k294⟩
theorem q295 : QC 295 cf295 := ⟨e295, k295⟩
theorem q296 : QC 296 cf296 := ⟨e296, k296⟩
theorem q297 : QC 297 cf297 := ⟨e297, k297⟩
theorem q298 : QC 298 cf298 := ⟨e298, k298⟩
theorem q299 : QC 299 cf299 := ⟨e299, k299⟩
theorem q300 : QC 300 cf300 := ⟨e300, k300⟩
theorem q301 : QC 301 cf301 := ⟨e301, k301⟩
theorem q302 : QC 302 cf302 := ⟨e302, k302⟩
theorem q303 : QC 303 cf303 := ⟨e303, k303⟩
theorem q304 : QC 304 cf304 := ⟨e304, k304⟩
theorem q305 : QC 305 cf305 := ⟨e305, k305⟩
theorem q306 : QC 306 cf306 := ⟨e306, k306⟩
theorem q307 : QC 307 cf307 := ⟨e307, k307⟩
theorem q314 : QC 314 cf314 := ⟨e314, k314⟩
theorem q315 : QC 315 cf315 := ⟨e315, k315⟩
theorem q316 : QC 316 cf316 := ⟨e316, k316⟩
theorem q317 : QC 317 cf317 := ⟨e317, k317⟩
theorem q318 : QC 318 cf318 := ⟨e318, k318⟩
theorem q319 : QC 319 cf319 := ⟨e319, k319⟩
theorem q320 : QC 320 cf320 := ⟨e320, k320⟩
theorem q322 : QC 322 cf322 := ⟨e322, k322⟩
theorem q323 : QC 323 cf323 := ⟨e323, k323⟩
theorem q324 : QC 324 cf324 := ⟨e324, k324⟩
theorem q326 : QC 326 cf326 := ⟨e326, k326⟩
theorem q327 : QC 327 cf327 := ⟨e327, k327⟩
theorem q328 : QC 328 cf328 := ⟨e328, k328⟩
theorem q329 : QC 329 cf329 := ⟨e329, k329⟩
theorem q334 : QC 334 cf334 := ⟨e334, k334⟩
theorem q335 : QC 335 cf335 := ⟨e335, k335⟩
theorem q336 : QC 336 cf336 := ⟨e336, k336⟩
theorem q337 : QC 337 cf337 := ⟨e337, k337⟩
theorem q338 : QC 338 cf338 := ⟨e338, k338⟩
theorem q340 : QC 340 cf340 := ⟨e340, k340⟩
theorem q341 : QC 341 cf341 := ⟨e341, k341⟩
theorem q348 : QC 348 cf348 := ⟨e348, k348⟩
theorem q351 : QC 351 cf351 := ⟨e351, k351⟩
theorem q352 : QC 352 cf352 := ⟨e352, k352⟩
theorem q353 : QC 353 cf353 := ⟨e353, k353⟩
theorem q354 : QC 354 cf354 := ⟨e354, k354⟩
theorem q355 : QC 355 cf355 := ⟨e355, k355⟩
theorem q356 : QC 356 cf356 := ⟨e356, k356⟩
theorem q357 : QC 357 cf357 := ⟨e357, k357⟩
theorem q358 : QC 358 cf358 := ⟨e358, k358⟩
theorem q359 : QC 359 cf359 := ⟨e359, k359⟩
theorem q360 : QC 360 cf360 := ⟨e360, k360⟩
theorem q363 : QC 363 cf363 := ⟨e363, k363⟩
theorem q364 : QC 364 cf364 := ⟨e364, k364⟩
theorem q367 : QC 367 cf367 := ⟨e367, k367⟩
theorem q368 : QC 368 cf368 := ⟨e368, k368⟩
theorem q369 : QC 369 cf369 := ⟨e369, k369⟩
theorem q370 : QC 370 cf370 := ⟨e370, k370⟩
theorem q371 : QC 371 cf371 := ⟨e371, k371⟩
theorem q379 : QC 379 cf379 := ⟨e379, k379⟩
theorem q382 : QC 382 cf382 := ⟨e382, k382⟩
theorem q384 : QC 384 cf384 := ⟨e384, k384⟩
theorem q386 : QC 386 cf386 := ⟨e386, k386⟩
theorem q389 : QC 389 cf389 := ⟨e389, k389⟩
theorem q390 : QC 390 cf390 := ⟨e390, k390⟩
theorem q391 : QC 391 cf391 := ⟨e391, k391⟩
theorem q392 : QC 392 cf392 := ⟨e392, k392⟩
theorem q393 : QC 393 cf393 := ⟨e393, k393⟩
theorem q398 : QC 398 cf398 := ⟨e398, k398⟩
theorem q400 : QC 400 cf400 := ⟨e400, k400⟩
theorem q401 : QC 401 cf401 := ⟨e401, k401⟩
theorem q402 : QC 402 cf402 := ⟨e402, k402⟩
theorem q403 : QC 403 cf403 := ⟨e403, k403⟩
theorem q404 : QC 404 cf404 := ⟨e404, k404⟩
theorem q405 : QC 405 cf405 := ⟨e405, k405⟩
theorem q406 : QC 406 cf406 := ⟨e406, k406⟩
theorem q407 : QC 407 cf407 := ⟨e407, k407⟩
theorem q408 : QC 408 cf408 := ⟨e408, k408⟩
theorem q409 : QC 409 cf409 := ⟨e409, k409⟩
theorem q413 : QC 413 cf413 := ⟨e413, k413⟩
theorem q414 : QC 414 cf414 := ⟨e414, k414⟩
theorem q417 : QC 417 cf417 := ⟨e417, k417⟩
theorem q420 : QC 420 cf420 := ⟨e420, k420⟩
theorem q424 : QC 424 cf424 := ⟨e424, k424⟩
theorem q425 : QC 425 cf425 := ⟨e425, k425⟩
theorem q426 : QC 426 cf426 := ⟨e426, k426⟩
theorem q427 : QC 427 cf427 := ⟨e427, k427⟩
theorem q428 : QC 428 cf428 := ⟨e428, k428⟩
theorem q429 : QC 429 cf429 := ⟨e429, k429⟩
theorem q430 : QC 430 cf430 := ⟨e430, k430⟩
theorem q431 : QC 431 cf431 := ⟨e431, k431⟩
theorem q432 : QC 432 cf432 := ⟨e432, k432⟩
theorem q434 : QC 434 cf434 := ⟨e434, k434⟩
theorem q438 : QC 438 cf438 := ⟨e438, k438⟩
theorem q439 : QC 439 cf439 := ⟨e439, k439⟩
theorem q445 : QC 445 cf445 := ⟨e445, k445⟩
theorem q446 : QC 446 cf446 := ⟨e446, k446⟩
theorem q447 : QC 447 cf447 := ⟨e447, k447⟩
theorem q448 : QC 448 cf448 := ⟨e448, k448⟩
theorem q449 : QC 449 cf449 := ⟨e449, k449⟩
theorem q450 : QC 450 cf450 := ⟨e450, k450⟩
theorem q451 : QC 451 cf451 := ⟨e451, k451⟩
theorem q459 : QC 459 cf459 := ⟨e459, k459⟩
theorem q460 : QC 460 cf460 := ⟨e460, k460⟩
theorem q461 : QC 461 cf461 := ⟨e461, k461⟩
theorem q464 : QC 464 cf464 := ⟨e464, k464⟩
theorem q465 : QC 465 cf465 := ⟨e465, k465⟩
theorem q466 : QC 466 cf466 := ⟨e466, k466⟩
theorem q470 : QC 470 cf470 := ⟨e470, k470⟩
theorem q471 : QC 471 cf471 := ⟨e471, k471⟩
theorem q472 : QC 472 cf472 := ⟨e472, k472⟩
theorem q473 : QC 473 cf473 := ⟨e473, k473⟩
theorem q474 : QC 474 cf474 := ⟨e474, k474⟩
theorem q475 : QC 475 cf475 := ⟨e475, k475⟩
theorem q476 : QC 476 cf476 := ⟨e476, k476⟩
theorem q477 : QC 477 cf477 := ⟨e477, k477⟩
theorem q479 : QC 479 cf479 := ⟨e479, k479⟩
theorem q480 : QC 480 cf480 := ⟨e480, k480⟩
theorem q483 : QC 483 cf483 := ⟨e483, k483⟩
theorem q484 : QC 484 cf484 := ⟨e484, k484⟩
theorem q485 : QC 485 cf485 := ⟨e485, k485⟩
theorem q487 : QC 487 cf487 := ⟨e487, k487⟩
theorem q489 : QC 489 cf489 := ⟨e489, k489⟩
theorem q490 : QC 490 cf490 := ⟨e490, k490⟩
theorem q491 : QC 491 cf491 := ⟨e491, k491⟩
theorem q492 : QC 492 cf492 := ⟨e492, k492⟩
theorem q495 : QC 495 cf495 := ⟨e495, k495⟩
theorem q496 : QC 496 cf496 := ⟨e496, k496⟩
theorem q497 : QC 497 cf497 := ⟨e497, k497⟩
theorem q498 : QC 498 cf498 := ⟨e498, k498⟩
theorem q502 : QC 502 cf502 := ⟨e502, k502⟩
theorem q503 : QC 503 cf503 := ⟨e503, k503⟩
theorem q504 : QC 504 cf504 := ⟨e504, k504⟩
theorem q505 : QC 505 cf505 := ⟨e505, k505⟩
theorem q509 : QC 509 cf509 := ⟨e509, k509⟩
theorem q510 : QC 510 cf510 := ⟨e510, k510⟩
theorem q511 : QC 511 cf511 := ⟨e511, k511⟩
theorem q512 : QC 512 cf512 := ⟨e512, k512⟩
theorem q513 : QC 513 cf513 := ⟨e513, k513⟩
theorem q515 : QC 515 cf515 := ⟨e515, k515⟩
theorem q516 : QC 516 cf516 := ⟨e516, k516⟩
theorem q520 : QC 520 cf520 := ⟨e520, k520⟩
theorem q523 : QC 523 cf523 := ⟨e523, k523⟩
theorem q524 : QC 524 cf524 := ⟨e524, k524⟩
theorem q525 : QC 525 cf525 := ⟨e525, k525⟩
theorem q526 : QC 526 cf526 := ⟨e526, k526⟩
theorem q529 : QC 529 cf529 := ⟨e529, k529⟩
theorem q540 : QC 540 cf540 := ⟨e540, k540⟩
theorem q542 : QC 542 cf542 := ⟨e542, k542⟩
theorem q543 : QC 543 cf543 := ⟨e543, k543⟩
theorem q544 : QC 544 cf544 := ⟨e544, k544⟩
theorem q545 : QC 545 cf545 := ⟨e545, k545⟩
theorem q547 : QC 547 cf547 := ⟨e547, k547⟩
theorem q549 : QC 549 cf549 := ⟨e549, k549⟩
theorem q550 : QC 550 cf550 := ⟨e550, k550⟩
theorem q551 : QC 551 cf551 := ⟨e551, k551⟩
theorem q554 : QC 554 cf554 := ⟨e554, k554⟩
theorem q556 : QC 556 cf556 := ⟨e556, k556⟩
theorem q557 : QC 557 cf557 := ⟨e557, k557⟩
theorem q560 : QC 560 cf560 := ⟨e560, k560⟩
theorem q561 : QC 561 cf561 := ⟨e561, k561⟩
theorem q562 : QC 562 cf562 := ⟨e562, k562⟩
theorem q570 : QC 570 cf570 := ⟨e570, k570⟩
theorem q571 : QC 571 cf571 := ⟨e571, k571⟩
theorem q574 : QC 574 cf574 := ⟨e574, k574⟩
theorem q575 : QC 575 cf575 := ⟨e575, k575⟩
theorem q605 : QC 605 cf605 := ⟨e605, k605⟩
theorem q607 : QC 607 cf607 := ⟨e607, k607⟩
theorem qd34 : QD 34 df34 := ⟨d34, k34⟩
theorem qd124 : QD 124 df124 := ⟨d124, k124⟩
theorem qd148 : QD 148 df148 := ⟨d148, k148⟩
theorem qd274 : QD 274 df274 := ⟨d274, k274⟩
theorem qr125 : QR 125 rf125 := ⟨r125, o125⟩
theorem qr294 : QR 294 rf294 := ⟨r294, o294⟩
theorem qr328 : QR 328 rf328 := ⟨r328, o328⟩
theorem codeT_all : AllN QC codeT 1 0 := ⟨na, ⟨na, ⟨sa q3, ⟨sa q7, ⟨sa q15, ⟨sa q31, ⟨sa q63, ⟨sa q127, ⟨sa q255, ⟨sa q511, trivial, trivial⟩, trivial⟩, trivial⟩, ⟨sa q191, ⟨sa q319, ⟨sa q575, trivial, trivial⟩, trivial⟩, ⟨sa q447, trivial, trivial⟩⟩⟩, ⟨sa q95, ⟨na, ⟨na, ⟨sa q543, trivial, trivial⟩, trivial⟩, trivial⟩, ⟨na, ⟨sa q351, ⟨sa q607, trivial, trivial⟩, trivial⟩, ⟨sa q479, trivial, trivial⟩⟩⟩⟩, ⟨sa q47, ⟨sa q79, ⟨sa q143, trivial, trivial⟩, ⟨sa q207, ⟨sa q335, trivial, trivial⟩, trivial⟩⟩, ⟨na, ⟨sa q175, ⟨sa q303, trivial, trivial⟩, ⟨sa q431, trivial, trivial⟩⟩, ⟨na, ⟨sa q367, trivial, trivial⟩, ⟨sa q495, trivial, trivial⟩⟩⟩⟩⟩, ⟨na, ⟨sa q39, ⟨na, ⟨sa q135, ⟨sa q263, trivial, trivial⟩, ⟨sa q391, trivial, trivial⟩⟩, ⟨na, ⟨sa q327, trivial, trivial⟩, trivial⟩⟩, ⟨sa q103, ⟨sa q167, ⟨sa q295, ⟨sa q551, trivial, trivial⟩, trivial⟩, trivial⟩, ⟨sa q231, ⟨sa q359, trivial, trivial⟩, ⟨sa q487, trivial, trivial⟩⟩⟩⟩, ⟨sa q55, ⟨sa q87, ⟨sa q151, ⟨sa q279, trivial, trivial⟩, ⟨sa q407, trivial, trivial⟩⟩, ⟨sa q215, trivial, ⟨sa q471, trivial, trivial⟩⟩⟩, ⟨sa q119, ⟨sa q183, trivial, ⟨sa q439, trivial, trivial⟩⟩, ⟨na, trivial, ⟨sa q503, trivial, trivial⟩⟩⟩⟩⟩⟩, ⟨sa q11, ⟨sa q19, ⟨sa q35, ⟨na, ⟨sa q131, ⟨na, ⟨sa q515, trivial, trivial⟩, trivial⟩, trivial⟩, ⟨sa q195, ⟨sa q323, trivial, trivial⟩, ⟨sa q451, trivial, trivial⟩⟩⟩, ⟨sa q99, ⟨sa q163, ⟨na, ⟨sa q547, trivial, trivial⟩, trivial⟩, trivial⟩, ⟨na, ⟨sa q355, trivial, trivial⟩, ⟨sa q483, trivial, trivial⟩⟩⟩⟩, ⟨sa q51, ⟨na, ⟨na, ⟨sa q275, trivial, trivial⟩, ⟨sa q403, trivial, trivial⟩⟩, ⟨sa q211, trivial, trivial⟩⟩, ⟨sa q115, ⟨na, ⟨sa q307, trivial, trivial⟩, trivial⟩, ⟨sa q243, ⟨sa q371, trivial, trivial⟩, trivial⟩⟩⟩⟩, ⟨sa q27, ⟨sa q43, ⟨sa q75, ⟨na, ⟨na, ⟨sa q523, trivial, trivial⟩, trivial⟩, trivial⟩, ⟨na, trivial, ⟨sa q459, trivial, trivial⟩⟩⟩, ⟨sa q107, ⟨sa q171, ⟨sa q299, trivial, trivial⟩, ⟨sa q427, trivial, trivial⟩⟩, ⟨na, ⟨sa q363, trivial, trivial⟩, ⟨sa q491, trivial, trivial⟩⟩⟩⟩, ⟨na, ⟨na, ⟨sa q155, ⟨sa q283, trivial, trivial⟩, trivial⟩, ⟨sa q219, trivial, ⟨sa q475, trivial, trivial⟩⟩⟩, ⟨sa q123, ⟨na, ⟨sa q315, ⟨sa q571, trivial, trivial⟩, trivial⟩, trivial⟩, ⟨sa q251, ⟨sa q379, trivial, trivial⟩, trivial⟩⟩⟩⟩⟩⟩, ⟨sa q5, ⟨sa q9, ⟨sa q17, ⟨sa q33, ⟨sa q65, ⟨sa q129, ⟨na, ⟨sa q513, trivial, trivial⟩, trivial⟩, trivial⟩, ⟨sa q193, trivial, ⟨sa q449, trivial, trivial⟩⟩⟩, ⟨sa q97, ⟨na, ⟨na, ⟨sa q545, trivial, trivial⟩, trivial⟩, ⟨sa q417, trivial, trivial⟩⟩, ⟨na, ⟨sa q353, trivial, trivial⟩, trivial⟩⟩⟩, ⟨na, ⟨sa q81, ⟨sa q145, ⟨sa q273, ⟨sa q529, trivial, trivial⟩, trivial⟩, ⟨sa q401, trivial, trivial⟩⟩, ⟨sa q209, ⟨sa q337, trivial, trivial⟩, ⟨sa q465, trivial, trivial⟩⟩⟩, ⟨sa q113, ⟨sa q177, ⟨sa q305, ⟨sa q561, trivial, trivial⟩, trivial⟩, trivial⟩, ⟨sa q241, ⟨sa q369, trivial, trivial⟩, ⟨sa q497, trivial, trivial⟩⟩⟩⟩⟩, ⟨sa q25, ⟨sa q41, ⟨na, ⟨na, trivial, ⟨sa q393, trivial, trivial⟩⟩, ⟨sa q201, ⟨sa q329, trivial, trivial⟩, trivial⟩⟩, ⟨sa q105, ⟨na, ⟨sa q297, trivial, trivial⟩, ⟨sa q425, trivial, trivial⟩⟩, ⟨na, trivial, ⟨sa q489, trivial, trivial⟩⟩⟩⟩, ⟨na, ⟨na, ⟨na, ⟨sa q281, trivial, trivial⟩, ⟨sa q409, trivial, trivial⟩⟩, ⟨sa q217, trivial, ⟨sa q473, trivial, trivial⟩⟩⟩, ⟨sa q121, ⟨sa q185, trivial, trivial⟩, ⟨sa q249, trivial, ⟨sa q505, trivial, trivial⟩⟩⟩⟩⟩⟩, ⟨na, ⟨sa q21, ⟨sa q37, ⟨na, ⟨na, trivial, ⟨sa q389, trivial, trivial⟩⟩, ⟨sa q197, trivial, trivial⟩⟩, ⟨sa q101, ⟨sa q165, ⟨na, ⟨sa q549, trivial, trivial⟩, trivial⟩, trivial⟩, ⟨na, ⟨sa q357, trivial, trivial⟩, ⟨sa q485, trivial, trivial⟩⟩⟩⟩, ⟨sa q53, ⟨na, ⟨sa q149, ⟨sa q277, trivial, trivial⟩, ⟨sa q405, trivial, trivial⟩⟩, ⟨sa q213, ⟨sa q341, trivial, trivial⟩, trivial⟩⟩, ⟨na, ⟨sa q181, trivial, trivial⟩, ⟨sa q245, trivial, trivial⟩⟩⟩⟩, ⟨sa q29, ⟨sa q45, ⟨sa q77, ⟨na, ⟨na, ⟨sa q525, trivial, trivial⟩, trivial⟩, trivial⟩, ⟨na, trivial, ⟨sa q461, trivial, trivial⟩⟩⟩, ⟨sa q109, ⟨sa q173, ⟨sa q301, ⟨sa q557, trivial, trivial⟩, trivial⟩, ⟨sa q429, trivial, trivial⟩⟩, trivial⟩⟩, ⟨na, ⟨na, ⟨na, ⟨sa q285, trivial, trivial⟩, ⟨sa q413, trivial, trivial⟩⟩, ⟨na, ⟨na, ⟨sa q605, trivial, trivial⟩, trivial⟩, ⟨sa q477, trivial, trivial⟩⟩⟩, ⟨sa q125, ⟨na, ⟨sa q317, trivial, trivial⟩, ⟨sa q445, trivial, trivial⟩⟩, ⟨sa q253, trivial, ⟨sa q509, trivial, trivial⟩⟩⟩⟩⟩⟩⟩⟩, ⟨na, ⟨sa q4, ⟨sa q8, ⟨sa q16, ⟨sa q32, ⟨sa q64, ⟨sa q128, ⟨na, ⟨sa q512, trivial, trivial⟩, trivial⟩, ⟨sa q384, trivial, trivial⟩⟩, ⟨sa q192, ⟨sa q320, trivial, trivial⟩, ⟨sa q448, trivial, trivial⟩⟩⟩, ⟨sa q96, ⟨na, ⟨sa q288, ⟨sa q544, trivial, trivial⟩, trivial⟩, trivial⟩, ⟨na, ⟨sa q352, trivial, trivial⟩, ⟨sa q480, trivial, trivial⟩⟩⟩⟩, ⟨na, ⟨sa q80, ⟨sa q144, trivial, ⟨sa q400, trivial, trivial⟩⟩, ⟨sa q208, ⟨sa q336, trivial, trivial⟩, ⟨sa q464, trivial, trivial⟩⟩⟩, ⟨na, ⟨sa q176, ⟨sa q304, ⟨sa q560, trivial, trivial⟩, trivial⟩, ⟨sa q432, trivial, trivial⟩⟩, ⟨na, ⟨sa q368, trivial, trivial⟩, ⟨sa q496, trivial, trivial⟩⟩⟩⟩⟩, ⟨sa q24, ⟨sa q40, ⟨na, ⟨sa q136, ⟨na, ⟨sa q520, trivial, trivial⟩, trivial⟩, ⟨sa q392, trivial, trivial⟩⟩, ⟨sa q200, ⟨sa q328, trivial, trivial⟩, trivial⟩⟩, ⟨sa q104, ⟨sa q168, ⟨sa q296, trivial, trivial⟩, ⟨sa q424, trivial, trivial⟩⟩, ⟨na, ⟨sa q360, trivial, trivial⟩, trivial⟩⟩⟩, ⟨sa q56, ⟨na, ⟨sa q152, ⟨sa q280, trivial, trivial⟩, ⟨sa q408, trivial, trivial⟩⟩, ⟨sa q216, trivial, ⟨sa q472, trivial, trivial⟩⟩⟩, ⟨sa q120, trivial, ⟨na, trivial, ⟨sa q504, trivial, trivial⟩⟩⟩⟩⟩⟩, ⟨na, ⟨sa q20, ⟨sa q36, ⟨na, ⟨sa q132, ⟨na, ⟨sa q516, trivial, trivial⟩, trivial⟩, trivial⟩, ⟨sa q196, ⟨sa q324, trivial, trivial⟩, trivial⟩⟩, ⟨sa q100, ⟨sa q164, trivial, ⟨sa q420, trivial, trivial⟩⟩, ⟨na, ⟨sa q356, trivial, trivial⟩, ⟨sa q484, trivial, trivial⟩⟩⟩⟩, ⟨sa q52, ⟨na, ⟨na, ⟨sa q276, trivial, trivial⟩, ⟨sa q404, trivial, trivial⟩⟩, ⟨sa q212, ⟨sa q340, trivial, trivial⟩, trivial⟩⟩, ⟨sa q116, trivial, ⟨sa q244, trivial, trivial⟩⟩⟩⟩, ⟨sa q28, ⟨sa q44, ⟨sa q76, ⟨na, ⟨na, ⟨sa q524, trivial, trivial⟩, trivial⟩, trivial⟩, ⟨na, trivial, ⟨sa q460, trivial, trivial⟩⟩⟩, ⟨sa q108, ⟨sa q172, ⟨sa q300, ⟨sa q556, trivial, trivial⟩, trivial⟩, ⟨sa q428, trivial, trivial⟩⟩, ⟨na, ⟨sa q364, trivial, trivial⟩, ⟨sa q492, trivial, trivial⟩⟩⟩⟩, ⟨na, ⟨sa q92, ⟨na, ⟨sa q284, ⟨sa q540, trivial, trivial⟩, trivial⟩, trivial⟩, ⟨sa q220, ⟨sa q348, trivial, trivial⟩, ⟨sa q476, trivial, trivial⟩⟩⟩, ⟨na, ⟨na, ⟨sa q316, trivial, trivial⟩, trivial⟩, ⟨sa q252, trivial, trivial⟩⟩⟩⟩⟩⟩, ⟨sa q6, ⟨sa q10, ⟨sa q18, ⟨na, ⟨sa q66, ⟨sa q130, trivial, ⟨sa q386, trivial, trivial⟩⟩, ⟨sa q194, ⟨sa q322, trivial, trivial⟩, ⟨sa q450, trivial, trivial⟩⟩⟩, ⟨sa q98, ⟨sa q162, trivial, trivial⟩, ⟨na, ⟨sa q354, trivial, trivial⟩, trivial⟩⟩⟩, ⟨sa q50, ⟨sa q82, ⟨sa q146, trivial, ⟨sa q402, trivial, trivial⟩⟩, ⟨sa q210, ⟨sa q338, trivial, trivial⟩, ⟨sa q466, trivial, trivial⟩⟩⟩, ⟨sa q114, ⟨sa q178, ⟨sa q306, ⟨sa q562, trivial, trivial⟩, trivial⟩, ⟨sa q434, trivial, trivial⟩⟩, ⟨sa q242, ⟨sa q370, trivial, trivial⟩, ⟨sa q498, trivial, trivial⟩⟩⟩⟩⟩, ⟨sa q26, ⟨sa q42, trivial, ⟨sa q106, ⟨sa q170, ⟨sa q298, ⟨sa q554, trivial, trivial⟩, trivial⟩, ⟨sa q426, trivial, trivial⟩⟩, ⟨na, trivial, ⟨sa q490, trivial, trivial⟩⟩⟩⟩, ⟨na, ⟨sa q90, ⟨na, ⟨sa q282, trivial, trivial⟩, trivial⟩, ⟨sa q218, trivial, ⟨sa q474, trivial, trivial⟩⟩⟩, ⟨sa q122, ⟨na, ⟨sa q314, ⟨sa q570, trivial, trivial⟩, trivial⟩, trivial⟩, ⟨sa q250, trivial, trivial⟩⟩⟩⟩⟩, ⟨sa q14, ⟨sa q22, ⟨sa q38, ⟨na, ⟨sa q134, trivial, ⟨sa q390, trivial, trivial⟩⟩, ⟨sa q198, ⟨sa q326, trivial, trivial⟩, trivial⟩⟩, ⟨sa q102, ⟨sa q166, ⟨sa q294, ⟨sa q550, trivial, trivial⟩, trivial⟩, trivial⟩, ⟨na, ⟨sa q358, trivial, trivial⟩, trivial⟩⟩⟩, ⟨sa q54, ⟨sa q86, ⟨sa q150, ⟨sa q278, trivial, trivial⟩, ⟨sa q406, trivial, trivial⟩⟩, ⟨sa q214, trivial, ⟨sa q470, trivial, trivial⟩⟩⟩, ⟨sa q118, ⟨sa q182, trivial, ⟨sa q438, trivial, trivial⟩⟩, ⟨sa q246, trivial, ⟨sa q502, trivial, trivial⟩⟩⟩⟩⟩, ⟨sa q30, ⟨sa q46, ⟨sa q78, ⟨na, ⟨na, ⟨sa q526, trivial, trivial⟩, trivial⟩, ⟨sa q398, trivial, trivial⟩⟩, ⟨na, ⟨sa q334, trivial, trivial⟩, trivial⟩⟩, ⟨sa q110, ⟨sa q174, ⟨sa q302, trivial, trivial⟩, ⟨sa q430, trivial, trivial⟩⟩, trivial⟩⟩, ⟨na, ⟨sa q94, ⟨sa q158, ⟨sa q286, ⟨sa q542, trivial, trivial⟩, trivial⟩, ⟨sa q414, trivial, trivial⟩⟩, ⟨sa q222, trivial, trivial⟩⟩, ⟨sa q126, ⟨na, ⟨sa q318, ⟨sa q574, trivial, trivial⟩, trivial⟩, ⟨sa q446, trivial, trivial⟩⟩, ⟨sa q254, ⟨sa q382, trivial, trivial⟩, ⟨sa q510, trivial, trivial⟩⟩⟩⟩⟩⟩⟩⟩⟩
theorem codeTD_all : AllN QD codeTD 1 0 := ⟨na, trivial, ⟨na, ⟨na, trivial, ⟨na, ⟨na, trivial, ⟨na, ⟨na, ⟨sa qd148, trivial, trivial⟩, trivial⟩, trivial⟩⟩, ⟨na, trivial, ⟨na, trivial, ⟨sa qd124, trivial, trivial⟩⟩⟩⟩⟩, ⟨na, ⟨na, ⟨na, ⟨sa qd34, trivial, trivial⟩, ⟨na, ⟨na, ⟨na, ⟨sa qd274, trivial, trivial⟩, trivial⟩, trivial⟩, trivial⟩⟩, trivial⟩, trivial⟩⟩⟩
theorem codeTR_all : AllN QR codeTR 1 0 := ⟨na, ⟨na, trivial, ⟨na, trivial, ⟨na, trivial, ⟨na, trivial, ⟨na, trivial, ⟨sa qr125, trivial, trivial⟩⟩⟩⟩⟩⟩, ⟨na, ⟨na, ⟨na, trivial, ⟨na, ⟨na, ⟨na, trivial, ⟨na, ⟨sa qr328, trivial, trivial⟩, trivial⟩⟩, trivial⟩, trivial⟩⟩, trivial⟩, ⟨na, trivial, ⟨na, ⟨na, ⟨na, trivial, ⟨na, ⟨na, ⟨sa qr294, trivial, trivial⟩, trivial⟩, trivial⟩⟩, trivial⟩, trivial⟩⟩⟩⟩
theorem codeF_ok : ∀ f c, codeF f = some c → cFn Tryz.prog hintOf orderHint f = some c ∧ fnChk Tryz.prog (hintOf f) (orderHint f) f = true := fun f c h => by
  have := AllN_get codeT_all f c h
  rw [Nat.one_mul, Nat.add_zero] at this; exact this
theorem codeDF_ok : ∀ f c, codeDF f = some c → cFnD Tryz.prog hintOf orderHint f = some c ∧ fnChk Tryz.prog (hintOf f) (orderHint f) f = true := fun f c h => by
  have := AllN_get codeTD_all f c h
  rw [Nat.one_mul, Nat.add_zero] at this; exact this
theorem codeRF_ok : ∀ f c, codeRF f = some c → cRnd Tryz.prog hintOf f = some c ∧ opChk Tryz.prog f = true := fun f c h => by
  have := AllN_get codeTR_all f c h
  rw [Nat.one_mul, Nat.add_zero] at this; exact this
theorem findN_mem {α : Type} (n : Nat) : ∀ (l : List (Nat × α)) (x : α), findN n l = some x → (n, x) ∈ l
  | [], x, h => by cases h
  | (m, y) :: r, x, h => by
    unfold findN at h
    cases hb : Nat.beq m n with
    | true => rw [hb] at h; cases h; rw [beq_iff.1 hb]; exact List.mem_cons_self
    | false => rw [hb] at h; exact List.mem_cons_of_mem _ (findN_mem n r x h)
def ranged : List Nat := [208, 276, 277, 477, 542]
def ordChk : Bool := orders.all fun p => match findN slotD p.2 with
  | some (f :: gs) => and (Nat.beq f p.1) (decide (gs = ranged))
  | _ => true
theorem ordChk_ok : ordChk = true := by kernel_rfl
theorem order_ranged {f g : Nat} {gs : List Nat} (h : orderHint f slotD = some (g :: gs)) : g = f ∧ gs = ranged := by
  unfold orderHint at h
  cases hf : findN f orders with
  | none => rw [hf] at h; cases h
  | some l =>
    rw [hf] at h
    have h : findN slotD l = some (g :: gs) := h
    have := List.all_eq_true.1 ordChk_ok _ (findN_mem f orders l hf)
    simp only [h, Bool.and_eq_true, beq_iff, decide_eq_true_eq] at this
    exact this
theorem enters_ranged : ∀ gf ∈ ranged, gf ≠ baseY ∧ ∀ vs w, (callFunc gf vs).run Tryz.prog w = .ok (.enter gf vs) w := by
  intro gf hg
  have h : ∀ (f : Nat) (fn : Func), f ≠ baseY → Tryz.prog.funcs[f]? = some fn → fn.body.isSome = true → (fn.name != "runtime.NumGoroutine") = true → f ≠ baseY ∧ ∀ vs w, (callFunc f vs).run Tryz.prog w = .ok (.enter f vs) w := by
    intro f fn hb hf hs hn
    obtain ⟨c, hc⟩ := Option.isSome_iff_exists.1 hs
    exact ⟨hb, fun vs w => callFunc_run hf hc hn vs⟩
  unfold ranged at hg
  simp only [List.mem_cons, List.not_mem_nil, or_false] at hg
  rcases hg with rfl | rfl | rfl | rfl | rfl
  · exact h 208 _ (by decide) Tryz.func208 (by kernel_rfl) (by kernel_rfl)
  · exact h 276 _ (by decide) Tryz.func276 (by kernel_rfl) (by kernel_rfl)
  · exact h 277 _ (by decide) Tryz.func277 (by kernel_rfl) (by kernel_rfl)
  · exact h 477 _ (by decide) Tryz.func477 (by kernel_rfl) (by kernel_rfl)
  · exact h 542 _ (by decide) Tryz.func542 (by kernel_rfl) (by kernel_rfl)
theorem ranges_ok : ∀ f fn c, Tryz.prog.funcs[f]? = some fn → fn.body = some c → RangesOk Tryz.prog (hintOf f) (orderHint f) fn.ntmps c := by
  intro f fn c hf hb f' gs h
  obtain ⟨rfl, rfl⟩ := order_ranged h
  exact ⟨rfl, enters_ranged, fun x hx => ⟨fn, c, hf, hb, hx, rfl⟩⟩
theorem ops_ok : ∀ f fn c, Tryz.prog.funcs[f]? = some fn → fn.body = some c → codeRF f ≠ none → ∀ x ∈ rangesOf c, ∀ ops, (opsOf x.2.1 = some ops ∨ opsOf x.2.2 = some ops) → ops.toList.all (opIn fn.ntmps) = true := by
  intro f fn c hf hb hr x hx ops ho
  cases hc : codeRF f with
  | none => exact absurd hc hr
  | some y =>
    have := (codeRF_ok f y hc).2
    unfold opChk at this
    simp only [hf, hb] at this
    have := List.all_eq_true.1 this x hx
    simp only [Bool.and_eq_true] at this
    rcases ho with h | h
    · have h9 := this.1
      unfold opO at h9
      rw [h] at h9; exact h9
    · have h9 := this.2
      unfold opO at h9
      rw [h] at h9; exact h9
theorem mixed_ok : Tryz.prog.follows .mixedOrders = true := by kernel_rfl
/-- the evaluator's answers hold, if those of the known functions do -/
theorem run_ok {prim : FuncId → Option (Rec → List AV → AH → CR)} (hP : ∀ f p, prim f = some p → PrimOk Tryz.prog f p) (n : Nat) : RecOk Tryz.prog (runN codeF codeDF codeRF prim n) :=
  runN_ok codeF_ok codeDF_ok ranges_ok (fun f x h => (codeRF_ok f x h).1) ops_ok rfl (fun f ps s bd sz h => h) hP mixed_ok n
end Go.Ev
namespace Go.Ev
open Go Go.Shelf Go.Proofs
def sortUseRen : Ren := ⟨fun | 6 => 104 | 15 => 32 | 14 => 181 | 28 => 75 | 29 => 76 | 20 => 255 | 21 => 256 | 22 => 257 | 23 => 258 | 24 => 259 | 25 => 260 | 26 => 261 | 27 => 262 | 46 => 342 | 47 => 139 | 48 => 140 | 49 => 343 | 50 => 344 | 57 => 418 | n => n, fun | 22 => 28 | 24 => 176 | 25 => 208 | 3 => 3 | 39 => 96 | 0 => 0 | 53 => 164 | 55 => 166 | 4 => 4 | 46 => 157 | 45 => 156 | 50 => 161 | 5 => 5 | 9 => 9 | 66 => 236 | 70 => 240 | 76 => 320 | 77 => 321 | n => n, fun n => n⟩
theorem sortUseLays : SlLaysF0.n6 Tryz.prog sortUseRen where
  mixed := by kernel_rfl
  f6 := ⟨Tryz.f104.name, by kernel_rfl, Tryz.func104.trans (congrArg some (by kernel_rfl))⟩
  f14 := ⟨Tryz.f181.name, by kernel_rfl, Tryz.func181.trans (congrArg some (by kernel_rfl))⟩
  f15 := Tryz.func32.trans (congrArg some (by kernel_rfl))
  f20 := ⟨Tryz.f255.name, by kernel_rfl, Tryz.func255.trans (congrArg some (by kernel_rfl))⟩
  f21 := ⟨Tryz.f256.name, by kernel_rfl, Tryz.func256.trans (congrArg some (by kernel_rfl))⟩
  f22 := ⟨Tryz.f257.name, by kernel_rfl, Tryz.func257.trans (congrArg some (by kernel_rfl))⟩
  f23 := ⟨Tryz.f258.name, by kernel_rfl, Tryz.func258.trans (congrArg some (by kernel_rfl))⟩
  f24 := ⟨Tryz.f259.name, by kernel_rfl, Tryz.func259.trans (congrArg some (by kernel_rfl))⟩
  f25 := ⟨Tryz.f260.name, by kernel_rfl, Tryz.func260.trans (congrArg some (by kernel_rfl))⟩
  f26 := ⟨Tryz.f261.name, by kernel_rfl, Tryz.func261.trans (congrArg some (by kernel_rfl))⟩
  f27 := ⟨Tryz.f262.name, by kernel_rfl, Tryz.func262.trans (congrArg some (by kernel_rfl))⟩
  f28 := Tryz.func75.trans (congrArg some (by kernel_rfl))
  f29 := Tryz.func76.trans (congrArg some (by kernel_rfl))
  f46 := ⟨Tryz.f342.name, by kernel_rfl, Tryz.func342.trans (congrArg some (by kernel_rfl))⟩
  f47 := Tryz.func139.trans (congrArg some (by kernel_rfl))
  f48 := Tryz.func140.trans (congrArg some (by kernel_rfl))
  f49 := ⟨Tryz.f343.name, by kernel_rfl, Tryz.func343.trans (congrArg some (by kernel_rfl))⟩
  f50 := ⟨Tryz.f344.name, by kernel_rfl, Tryz.func344.trans (congrArg some (by kernel_rfl))⟩
  f57 := ⟨Tryz.f418.name, by kernel_rfl, Tryz.func418.trans (congrArg some (by kernel_rfl))⟩
  t0 := Tryz.underlying0
  a0 := Tryz.isAgg0
  z0 := Tryz.sizeOf0
  v0 := Tryz.zeroValue0
  t3 := Tryz.underlying3
  a3 := Tryz.isAgg3
  z3 := Tryz.sizeOf3
  v3 := Tryz.zeroValue3
  t4 := Tryz.underlying4
  a4 := Tryz.isAgg4
  z4 := Tryz.sizeOf4
  v4 := Tryz.zeroValue4
  t5 := Tryz.underlying5
  a5 := Tryz.isAgg5
  z5 := Tryz.sizeOf5
  v5 := Tryz.zeroValue5
  t9 := Tryz.underlying9
  a9 := Tryz.isAgg9
  z9 := Tryz.sizeOf9
  v9 := Tryz.zeroValue9
  t22 := Tryz.underlying28
  a22 := Tryz.isAgg28
  z22 := Tryz.sizeOf28
  v22 := Tryz.zeroValue28
  t25 := Tryz.underlying208
  a25 := Tryz.isAgg208
  z25 := Tryz.sizeOf208
  v25 := Tryz.zeroValue208
  t39 := Tryz.underlying96
  a39 := Tryz.isAgg96
  z39 := Tryz.sizeOf96
  v39 := Tryz.zeroValue96
  t45 := Tryz.underlying156
  a45 := Tryz.isAgg156
  z45 := Tryz.sizeOf156
  v45 := Tryz.zeroValue156
  t46 := Tryz.underlying157
  a46 := Tryz.isAgg157
  z46 := Tryz.sizeOf157
  v46 := Tryz.zeroValue157
  t50 := Tryz.underlying161
  a50 := Tryz.isAgg161
  z50 := Tryz.sizeOf161
  v50 := Tryz.zeroValue161
  t53 := Tryz.underlying164
  a53 := Tryz.isAgg164
  z53 := Tryz.sizeOf164
  v53 := Tryz.zeroValue164
  t55 := Tryz.underlying166
  a55 := Tryz.isAgg166
  z55 := Tryz.sizeOf166
  v55 := Tryz.zeroValue166
  t66 := Tryz.underlying236
  a66 := Tryz.isAgg236
  z66 := Tryz.sizeOf236
  v66 := Tryz.zeroValue236
  t70 := Tryz.underlying240
  a70 := Tryz.isAgg240
  z70 := Tryz.sizeOf240
  v70 := Tryz.zeroValue240
  t76 := Tryz.underlying320
  a76 := Tryz.isAgg320
  z76 := Tryz.sizeOf320
  v76 := Tryz.zeroValue320
  t77 := Tryz.underlying321
  a77 := Tryz.isAgg321
  z77 := Tryz.sizeOf321
  v77 := Tryz.zeroValue321
def sortTypedRen : Ren := ⟨fun | 6 => 109 | 15 => 32 | 14 => 183 | 28 => 75 | 29 => 76 | 20 => 263 | 21 => 264 | 22 => 265 | 23 => 266 | 24 => 267 | 25 => 268 | 26 => 269 | 27 => 270 | 46 => 345 | 47 => 139 | 48 => 140 | 49 => 346 | 50 => 347 | 57 => 419 | n => n, fun | 22 => 29 | 24 => 130 | 25 => 212 | 3 => 3 | 39 => 96 | 0 => 0 | 53 => 164 | 55 => 166 | 4 => 4 | 46 => 157 | 45 => 156 | 50 => 161 | 5 => 5 | 9 => 9 | 66 => 236 | 70 => 240 | 76 => 320 | 77 => 321 | n => n, fun n => n⟩
theorem sortTypedLays : SlLaysF0.n6 Tryz.prog sortTypedRen where
  mixed := by kernel_rfl
  f6 := ⟨Tryz.f109.name, by kernel_rfl, Tryz.func109.trans (congrArg some (by kernel_rfl))⟩
  f14 := ⟨Tryz.f183.name, by kernel_rfl, Tryz.func183.trans (congrArg some (by kernel_rfl))⟩
  f15 := Tryz.func32.trans (congrArg some (by kernel_rfl))
  f20 := ⟨Tryz.f263.name, by kernel_rfl, Tryz.func263.trans (congrArg some (by kernel_rfl))⟩
  f21 := ⟨Tryz.f264.name, by kernel_rfl, Tryz.func264.trans (congrArg some (by kernel_rfl))⟩
  f22 := ⟨Tryz.f265.name, by kernel_rfl, Tryz.func265.trans (congrArg some (by kernel_rfl))⟩
  f23 := ⟨Tryz.f266.name, by kernel_rfl, Tryz.func266.trans (congrArg some (by kernel_rfl))⟩
  f24 := ⟨Tryz.f267.name, by kernel_rfl, Tryz.func267.trans (congrArg some (by kernel_rfl))⟩
  f25 := ⟨Tryz.f268.name, by kernel_rfl, Tryz.func268.trans (congrArg some (by kernel_rfl))⟩
  f26 := ⟨Tryz.f269.name, by kernel_rfl, Tryz.func269.trans (congrArg some (by kernel_rfl))⟩
  f27 := ⟨Tryz.f270.name, by kernel_rfl, Tryz.func270.trans (congrArg some (by kernel_rfl))⟩
  f28 := Tryz.func75.trans (congrArg some (by kernel_rfl))
  f29 := Tryz.func76.trans (congrArg some (by kernel_rfl))
  f46 := ⟨Tryz.f345.name, by kernel_rfl, Tryz.func345.trans (congrArg some (by kernel_rfl))⟩
  f47 := Tryz.func139.trans (congrArg some (by kernel_rfl))
  f48 := Tryz.func140.trans (congrArg some (by kernel_rfl))
  f49 := ⟨Tryz.f346.name, by kernel_rfl, Tryz.func346.trans (congrArg some (by kernel_rfl))⟩
  f50 := ⟨Tryz.f347.name, by kernel_rfl, Tryz.func347.trans (congrArg some (by kernel_rfl))⟩
  f57 := ⟨Tryz.f419.name, by kernel_rfl, Tryz.func419.trans (congrArg some (by kernel_rfl))⟩
  t0 := Tryz.underlying0
  a0 := Tryz.isAgg0
  z0 := Tryz.sizeOf0
  v0 := Tryz.zeroValue0
  t3 := Tryz.underlying3
  a3 := Tryz.isAgg3
  z3 := Tryz.sizeOf3
  v3 := Tryz.zeroValue3
  t4 := Tryz.underlying4
  a4 := Tryz.isAgg4
  z4 := Tryz.sizeOf4
  v4 := Tryz.zeroValue4
  t5 := Tryz.underlying5
  a5 := Tryz.isAgg5
  z5 := Tryz.sizeOf5
  v5 := Tryz.zeroValue5
  t9 := Tryz.underlying9
  a9 := Tryz.isAgg9
  z9 := Tryz.sizeOf9
  v9 := Tryz.zeroValue9
  t22 := Tryz.underlying29
  a22 := Tryz.isAgg29
  z22 := Tryz.sizeOf29
  v22 := Tryz.zeroValue29
  t25 := Tryz.underlying212
  a25 := Tryz.isAgg212
  z25 := Tryz.sizeOf212
  v25 := Tryz.zeroValue212
  t39 := Tryz.underlying96
  a39 := Tryz.isAgg96
  z39 := Tryz.sizeOf96
  v39 := Tryz.zeroValue96
  t45 := Tryz.underlying156
  a45 := Tryz.isAgg156
  z45 := Tryz.sizeOf156
  v45 := Tryz.zeroValue156
  t46 := Tryz.underlying157
  a46 := Tryz.isAgg157
  z46 := Tryz.sizeOf157
  v46 := Tryz.zeroValue157
  t50 := Tryz.underlying161
  a50 := Tryz.isAgg161
  z50 := Tryz.sizeOf161
  v50 := Tryz.zeroValue161
  t53 := Tryz.underlying164
  a53 := Tryz.isAgg164
  z53 := Tryz.sizeOf164
  v53 := Tryz.zeroValue164
  t55 := Tryz.underlying166
  a55 := Tryz.isAgg166
  z55 := Tryz.sizeOf166
  v55 := Tryz.zeroValue166
  t66 := Tryz.underlying236
  a66 := Tryz.isAgg236
  z66 := Tryz.sizeOf236
  v66 := Tryz.zeroValue236
  t70 := Tryz.underlying240
  a70 := Tryz.isAgg240
  z70 := Tryz.sizeOf240
  v70 := Tryz.zeroValue240
  t76 := Tryz.underlying320
  a76 := Tryz.isAgg320
  z76 := Tryz.sizeOf320
  v76 := Tryz.zeroValue320
  t77 := Tryz.underlying321
  a77 := Tryz.isAgg321
  z77 := Tryz.sizeOf321
  v77 := Tryz.zeroValue321
end Go.Ev
