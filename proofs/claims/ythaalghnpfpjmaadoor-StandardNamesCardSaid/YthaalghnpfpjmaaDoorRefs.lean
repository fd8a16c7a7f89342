import Derived.Test.YthaalghnpfpjmaaDoorMach4
set_option linter.all false
/-! Own words: the named references, as data; references, attributes and the states around them, as functions. -/
set_option maxRecDepth 100000
namespace Go.Sv
structure Ent where
  name : List UInt8
  first : Int
  second : Int
  bare : Bool
def ents0 : List Ent := [⟨[65, 69, 108, 105, 103], 198, 0, true⟩, ⟨[65, 77, 80], 38, 0, true⟩, ⟨[65, 97, 99, 117, 116, 101], 193, 0, true⟩, ⟨[65, 99, 105, 114, 99], 194, 0, true⟩, ⟨[65, 102, 114], 120068, 0, false⟩, ⟨[65, 103, 114, 97, 118, 101], 192, 0, true⟩, ⟨[65, 108, 112, 104, 97], 913, 0, false⟩, ⟨[65, 114, 105, 110, 103], 197, 0, true⟩, ⟨[65, 116, 105, 108, 100, 101], 195, 0, true⟩, ⟨[65, 117, 109, 108], 196, 0, true⟩, ⟨[66, 101, 116, 97], 914, 0, false⟩, ⟨[67, 79, 80, 89], 169, 0, true⟩, ⟨[67, 99, 101, 100, 105, 108], 199, 0, true⟩, ⟨[67, 104, 105], 935, 0, false⟩, ⟨[67, 111, 112, 102], 8450, 0, false⟩, ⟨[68, 97, 103, 103, 101, 114], 8225, 0, false⟩, ⟨[68, 101, 108, 116, 97], 916, 0, false⟩, ⟨[69, 84, 72], 208, 0, true⟩, ⟨[69, 97, 99, 117, 116, 101], 201, 0, true⟩, ⟨[69, 99, 105, 114, 99], 202, 0, true⟩, ⟨[69, 103, 114, 97, 118, 101], 200, 0, true⟩, ⟨[69, 112, 115, 105, 108, 111, 110], 917, 0, false⟩, ⟨[69, 116, 97], 919, 0, false⟩, ⟨[69, 117, 109, 108], 203, 0, true⟩, ⟨[71, 84], 62, 0, true⟩, ⟨[71, 97, 109, 109, 97], 915, 0, false⟩, ⟨[72, 97, 116], 94, 0, false⟩, ⟨[73, 97, 99, 117, 116, 101], 205, 0, true⟩, ⟨[73, 99, 105, 114, 99], 206, 0, true⟩, ⟨[73, 103, 114, 97, 118, 101], 204, 0, true⟩, ⟨[73, 111, 116, 97], 921, 0, false⟩, ⟨[73, 117, 109, 108], 207, 0, true⟩, ⟨[75, 97, 112, 112, 97], 922, 0, false⟩, ⟨[76, 84], 60, 0, true⟩, ⟨[76, 97, 109, 98, 100, 97], 923, 0, false⟩, ⟨[77, 117], 924, 0, false⟩, ⟨[78, 101, 119, 76, 105, 110, 101], 10, 0, false⟩, ⟨[78, 111, 116, 69, 113, 117, 97, 108, 84, 105, 108, 100, 101], 8770, 824, false⟩, ⟨[78, 116, 105, 108, 100, 101], 209, 0, true⟩, ⟨[78, 117], 925, 0, false⟩]
def ents1 : List Ent := [⟨[79, 69, 108, 105, 103], 338, 0, false⟩, ⟨[79, 97, 99, 117, 116, 101], 211, 0, true⟩, ⟨[79, 99, 105, 114, 99], 212, 0, true⟩, ⟨[79, 103, 114, 97, 118, 101], 210, 0, true⟩, ⟨[79, 109, 101, 103, 97], 937, 0, false⟩, ⟨[79, 109, 105, 99, 114, 111, 110], 927, 0, false⟩, ⟨[79, 115, 108, 97, 115, 104], 216, 0, true⟩, ⟨[79, 116, 105, 108, 100, 101], 213, 0, true⟩, ⟨[79, 117, 109, 108], 214, 0, true⟩, ⟨[80, 104, 105], 934, 0, false⟩, ⟨[80, 105], 928, 0, false⟩, ⟨[80, 114, 105, 109, 101], 8243, 0, false⟩, ⟨[80, 115, 105], 936, 0, false⟩, ⟨[81, 85, 79, 84], 34, 0, true⟩, ⟨[82, 69, 71], 174, 0, true⟩, ⟨[82, 104, 111], 929, 0, false⟩, ⟨[83, 99, 97, 114, 111, 110], 352, 0, false⟩, ⟨[83, 105, 103, 109, 97], 931, 0, false⟩, ⟨[84, 72, 79, 82, 78], 222, 0, true⟩, ⟨[84, 97, 98], 9, 0, false⟩, ⟨[84, 97, 117], 932, 0, false⟩, ⟨[84, 104, 101, 116, 97], 920, 0, false⟩, ⟨[84, 104, 105, 99, 107, 83, 112, 97, 99, 101], 8287, 8202, false⟩, ⟨[85, 97, 99, 117, 116, 101], 218, 0, true⟩, ⟨[85, 99, 105, 114, 99], 219, 0, true⟩, ⟨[85, 103, 114, 97, 118, 101], 217, 0, true⟩, ⟨[85, 112, 115, 105, 108, 111, 110], 933, 0, false⟩, ⟨[85, 117, 109, 108], 220, 0, true⟩, ⟨[88, 105], 926, 0, false⟩, ⟨[89, 97, 99, 117, 116, 101], 221, 0, true⟩, ⟨[89, 117, 109, 108], 376, 0, false⟩, ⟨[90, 101, 116, 97], 918, 0, false⟩, ⟨[97, 97, 99, 117, 116, 101], 225, 0, true⟩, ⟨[97, 99, 105, 114, 99], 226, 0, true⟩, ⟨[97, 99, 117, 116, 101], 180, 0, true⟩, ⟨[97, 101, 108, 105, 103], 230, 0, true⟩, ⟨[97, 103, 114, 97, 118, 101], 224, 0, true⟩, ⟨[97, 108, 101, 102, 115, 121, 109], 8501, 0, false⟩, ⟨[97, 108, 112, 104, 97], 945, 0, false⟩, ⟨[97, 109, 112], 38, 0, true⟩]
def ents2 : List Ent := [⟨[97, 110, 100], 8743, 0, false⟩, ⟨[97, 110, 103], 8736, 0, false⟩, ⟨[97, 112, 111, 115], 39, 0, false⟩, ⟨[97, 114, 105, 110, 103], 229, 0, true⟩, ⟨[97, 115, 116], 42, 0, false⟩, ⟨[97, 115, 121, 109, 112], 8776, 0, false⟩, ⟨[97, 116, 105, 108, 100, 101], 227, 0, true⟩, ⟨[97, 117, 109, 108], 228, 0, true⟩, ⟨[98, 100, 113, 117, 111], 8222, 0, false⟩, ⟨[98, 101, 116, 97], 946, 0, false⟩, ⟨[98, 110, 101], 61, 8421, false⟩, ⟨[98, 114, 118, 98, 97, 114], 166, 0, true⟩, ⟨[98, 115, 111, 108], 92, 0, false⟩, ⟨[98, 117, 108, 108], 8226, 0, false⟩, ⟨[99, 97, 112], 8745, 0, false⟩, ⟨[99, 99, 101, 100, 105, 108], 231, 0, true⟩, ⟨[99, 101, 100, 105, 108], 184, 0, true⟩, ⟨[99, 101, 110, 116], 162, 0, true⟩, ⟨[99, 104, 105], 967, 0, false⟩, ⟨[99, 105, 114, 99], 710, 0, false⟩, ⟨[99, 108, 117, 98, 115], 9827, 0, false⟩, ⟨[99, 111, 108, 111, 110], 58, 0, false⟩, ⟨[99, 111, 109, 109, 97], 44, 0, false⟩, ⟨[99, 111, 109, 109, 97, 116], 64, 0, false⟩, ⟨[99, 111, 110, 103], 8773, 0, false⟩, ⟨[99, 111, 112, 121], 169, 0, true⟩, ⟨[99, 114, 97, 114, 114], 8629, 0, false⟩, ⟨[99, 117, 112], 8746, 0, false⟩, ⟨[99, 117, 114, 114, 101, 110], 164, 0, true⟩, ⟨[100, 65, 114, 114], 8659, 0, false⟩, ⟨[100, 97, 103, 103, 101, 114], 8224, 0, false⟩, ⟨[100, 97, 114, 114], 8595, 0, false⟩, ⟨[100, 101, 103], 176, 0, true⟩, ⟨[100, 101, 108, 116, 97], 948, 0, false⟩, ⟨[100, 105, 97, 109, 115], 9830, 0, false⟩, ⟨[100, 105, 118, 105, 100, 101], 247, 0, true⟩, ⟨[100, 111, 108, 108, 97, 114], 36, 0, false⟩, ⟨[101, 97, 99, 117, 116, 101], 233, 0, true⟩, ⟨[101, 99, 105, 114, 99], 234, 0, true⟩, ⟨[101, 103, 114, 97, 118, 101], 232, 0, true⟩]
def ents3 : List Ent := [⟨[101, 109, 112, 116, 121], 8709, 0, false⟩, ⟨[101, 109, 115, 112], 8195, 0, false⟩, ⟨[101, 110, 115, 112], 8194, 0, false⟩, ⟨[101, 112, 115, 105, 108, 111, 110], 949, 0, false⟩, ⟨[101, 113, 117, 97, 108, 115], 61, 0, false⟩, ⟨[101, 113, 117, 105, 118], 8801, 0, false⟩, ⟨[101, 116, 97], 951, 0, false⟩, ⟨[101, 116, 104], 240, 0, true⟩, ⟨[101, 117, 109, 108], 235, 0, true⟩, ⟨[101, 117, 114, 111], 8364, 0, false⟩, ⟨[101, 120, 99, 108], 33, 0, false⟩, ⟨[101, 120, 105, 115, 116], 8707, 0, false⟩, ⟨[102, 106, 108, 105, 103], 102, 106, false⟩, ⟨[102, 110, 111, 102], 402, 0, false⟩, ⟨[102, 111, 114, 97, 108, 108], 8704, 0, false⟩, ⟨[102, 114, 97, 99, 49, 50], 189, 0, true⟩, ⟨[102, 114, 97, 99, 49, 52], 188, 0, true⟩, ⟨[102, 114, 97, 99, 51, 52], 190, 0, true⟩, ⟨[102, 114, 97, 115, 108], 8260, 0, false⟩, ⟨[103, 97, 109, 109, 97], 947, 0, false⟩, ⟨[103, 101], 8805, 0, false⟩, ⟨[103, 114, 97, 118, 101], 96, 0, false⟩, ⟨[103, 116], 62, 0, true⟩, ⟨[104, 65, 114, 114], 8660, 0, false⟩, ⟨[104, 97, 114, 114], 8596, 0, false⟩, ⟨[104, 101, 97, 114, 116, 115], 9829, 0, false⟩, ⟨[104, 101, 108, 108, 105, 112], 8230, 0, false⟩, ⟨[105, 97, 99, 117, 116, 101], 237, 0, true⟩, ⟨[105, 99, 105, 114, 99], 238, 0, true⟩, ⟨[105, 101, 120, 99, 108], 161, 0, true⟩, ⟨[105, 103, 114, 97, 118, 101], 236, 0, true⟩, ⟨[105, 109, 97, 103, 101], 8465, 0, false⟩, ⟨[105, 110, 102, 105, 110], 8734, 0, false⟩, ⟨[105, 110, 116], 8747, 0, false⟩, ⟨[105, 111, 116, 97], 953, 0, false⟩, ⟨[105, 113, 117, 101, 115, 116], 191, 0, true⟩, ⟨[105, 115, 105, 110], 8712, 0, false⟩, ⟨[105, 117, 109, 108], 239, 0, true⟩, ⟨[107, 97, 112, 112, 97], 954, 0, false⟩, ⟨[108, 65, 114, 114], 8656, 0, false⟩]
def ents4 : List Ent := [⟨[108, 97, 109, 98, 100, 97], 955, 0, false⟩, ⟨[108, 97, 110, 103], 10216, 0, false⟩, ⟨[108, 97, 113, 117, 111], 171, 0, true⟩, ⟨[108, 97, 114, 114], 8592, 0, false⟩, ⟨[108, 98, 114, 97, 99, 101], 123, 0, false⟩, ⟨[108, 98, 114, 97, 99, 107], 91, 0, false⟩, ⟨[108, 99, 101, 105, 108], 8968, 0, false⟩, ⟨[108, 99, 117, 98], 123, 0, false⟩, ⟨[108, 100, 113, 117, 111], 8220, 0, false⟩, ⟨[108, 101], 8804, 0, false⟩, ⟨[108, 102, 108, 111, 111, 114], 8970, 0, false⟩, ⟨[108, 111, 119, 97, 115, 116], 8727, 0, false⟩, ⟨[108, 111, 119, 98, 97, 114], 95, 0, false⟩, ⟨[108, 111, 122], 9674, 0, false⟩, ⟨[108, 112, 97, 114], 40, 0, false⟩, ⟨[108, 114, 109], 8206, 0, false⟩, ⟨[108, 115, 97, 113, 117, 111], 8249, 0, false⟩, ⟨[108, 115, 113, 98], 91, 0, false⟩, ⟨[108, 115, 113, 117, 111], 8216, 0, false⟩, ⟨[108, 116], 60, 0, true⟩, ⟨[109, 97, 99, 114], 175, 0, true⟩, ⟨[109, 100, 97, 115, 104], 8212, 0, false⟩, ⟨[109, 105, 99, 114, 111], 181, 0, true⟩, ⟨[109, 105, 100, 100, 111, 116], 183, 0, true⟩, ⟨[109, 105, 110, 117, 115], 8722, 0, false⟩, ⟨[109, 117], 956, 0, false⟩, ⟨[110, 97, 98, 108, 97], 8711, 0, false⟩, ⟨[110, 98, 115, 112], 160, 0, true⟩, ⟨[110, 100, 97, 115, 104], 8211, 0, false⟩, ⟨[110, 101], 8800, 0, false⟩, ⟨[110, 105], 8715, 0, false⟩, ⟨[110, 111, 116], 172, 0, true⟩, ⟨[110, 111, 116, 105, 110], 8713, 0, false⟩, ⟨[110, 111, 116, 105, 110, 118, 97], 8713, 0, false⟩, ⟨[110, 111, 116, 110, 105], 8716, 0, false⟩, ⟨[110, 115, 117, 98], 8836, 0, false⟩, ⟨[110, 116, 105, 108, 100, 101], 241, 0, true⟩, ⟨[110, 117], 957, 0, false⟩, ⟨[110, 117, 109], 35, 0, false⟩, ⟨[110, 118, 108, 116], 60, 8402, false⟩]
def ents5 : List Ent := [⟨[111, 97, 99, 117, 116, 101], 243, 0, true⟩, ⟨[111, 99, 105, 114, 99], 244, 0, true⟩, ⟨[111, 101, 108, 105, 103], 339, 0, false⟩, ⟨[111, 103, 114, 97, 118, 101], 242, 0, true⟩, ⟨[111, 108, 105, 110, 101], 8254, 0, false⟩, ⟨[111, 109, 101, 103, 97], 969, 0, false⟩, ⟨[111, 109, 105, 99, 114, 111, 110], 959, 0, false⟩, ⟨[111, 112, 108, 117, 115], 8853, 0, false⟩, ⟨[111, 114], 8744, 0, false⟩, ⟨[111, 114, 100, 102], 170, 0, true⟩, ⟨[111, 114, 100, 109], 186, 0, true⟩, ⟨[111, 115, 108, 97, 115, 104], 248, 0, true⟩, ⟨[111, 116, 105, 108, 100, 101], 245, 0, true⟩, ⟨[111, 116, 105, 109, 101, 115], 8855, 0, false⟩, ⟨[111, 117, 109, 108], 246, 0, true⟩, ⟨[112, 97, 114, 97], 182, 0, true⟩, ⟨[112, 97, 114, 116], 8706, 0, false⟩, ⟨[112, 101, 114, 99, 110, 116], 37, 0, false⟩, ⟨[112, 101, 114, 105, 111, 100], 46, 0, false⟩, ⟨[112, 101, 114, 109, 105, 108], 8240, 0, false⟩, ⟨[112, 101, 114, 112], 8869, 0, false⟩, ⟨[112, 104, 105], 966, 0, false⟩, ⟨[112, 105], 960, 0, false⟩, ⟨[112, 105, 118], 982, 0, false⟩, ⟨[112, 108, 117, 115], 43, 0, false⟩, ⟨[112, 108, 117, 115, 109, 110], 177, 0, true⟩, ⟨[112, 111, 117, 110, 100], 163, 0, true⟩, ⟨[112, 114, 105, 109, 101], 8242, 0, false⟩, ⟨[112, 114, 111, 100], 8719, 0, false⟩, ⟨[112, 114, 111, 112], 8733, 0, false⟩, ⟨[112, 115, 105], 968, 0, false⟩, ⟨[113, 117, 101, 115, 116], 63, 0, false⟩, ⟨[113, 117, 111, 116], 34, 0, true⟩, ⟨[114, 65, 114, 114], 8658, 0, false⟩, ⟨[114, 97, 100, 105, 99], 8730, 0, false⟩, ⟨[114, 97, 110, 103], 10217, 0, false⟩, ⟨[114, 97, 113, 117, 111], 187, 0, true⟩, ⟨[114, 97, 114, 114], 8594, 0, false⟩, ⟨[114, 98, 114, 97, 99, 101], 125, 0, false⟩, ⟨[114, 98, 114, 97, 99, 107], 93, 0, false⟩]
def ents6 : List Ent := [⟨[114, 99, 101, 105, 108], 8969, 0, false⟩, ⟨[114, 99, 117, 98], 125, 0, false⟩, ⟨[114, 100, 113, 117, 111], 8221, 0, false⟩, ⟨[114, 101, 97, 108], 8476, 0, false⟩, ⟨[114, 101, 103], 174, 0, true⟩, ⟨[114, 102, 108, 111, 111, 114], 8971, 0, false⟩, ⟨[114, 104, 111], 961, 0, false⟩, ⟨[114, 108, 109], 8207, 0, false⟩, ⟨[114, 112, 97, 114], 41, 0, false⟩, ⟨[114, 115, 97, 113, 117, 111], 8250, 0, false⟩, ⟨[114, 115, 113, 98], 93, 0, false⟩, ⟨[114, 115, 113, 117, 111], 8217, 0, false⟩, ⟨[115, 98, 113, 117, 111], 8218, 0, false⟩, ⟨[115, 99, 97, 114, 111, 110], 353, 0, false⟩, ⟨[115, 100, 111, 116], 8901, 0, false⟩, ⟨[115, 101, 99, 116], 167, 0, true⟩, ⟨[115, 101, 109, 105], 59, 0, false⟩, ⟨[115, 104, 121], 173, 0, true⟩, ⟨[115, 105, 103, 109, 97], 963, 0, false⟩, ⟨[115, 105, 103, 109, 97, 102], 962, 0, false⟩, ⟨[115, 105, 109], 8764, 0, false⟩, ⟨[115, 111, 108], 47, 0, false⟩, ⟨[115, 112, 97, 100, 101, 115], 9824, 0, false⟩, ⟨[115, 117, 98], 8834, 0, false⟩, ⟨[115, 117, 98, 101], 8838, 0, false⟩, ⟨[115, 117, 109], 8721, 0, false⟩, ⟨[115, 117, 112], 8835, 0, false⟩, ⟨[115, 117, 112, 49], 185, 0, true⟩, ⟨[115, 117, 112, 50], 178, 0, true⟩, ⟨[115, 117, 112, 51], 179, 0, true⟩, ⟨[115, 117, 112, 101], 8839, 0, false⟩, ⟨[115, 122, 108, 105, 103], 223, 0, true⟩, ⟨[116, 97, 117], 964, 0, false⟩, ⟨[116, 104, 101, 114, 101, 52], 8756, 0, false⟩, ⟨[116, 104, 101, 116, 97], 952, 0, false⟩, ⟨[116, 104, 101, 116, 97, 115, 121, 109], 977, 0, false⟩, ⟨[116, 104, 105, 110, 115, 112], 8201, 0, false⟩, ⟨[116, 104, 111, 114, 110], 254, 0, true⟩, ⟨[116, 105, 108, 100, 101], 732, 0, false⟩, ⟨[116, 105, 109, 101, 115], 215, 0, true⟩]
def ents7 : List Ent := [⟨[116, 114, 97, 100, 101], 8482, 0, false⟩, ⟨[117, 65, 114, 114], 8657, 0, false⟩, ⟨[117, 97, 99, 117, 116, 101], 250, 0, true⟩, ⟨[117, 97, 114, 114], 8593, 0, false⟩, ⟨[117, 99, 105, 114, 99], 251, 0, true⟩, ⟨[117, 103, 114, 97, 118, 101], 249, 0, true⟩, ⟨[117, 109, 108], 168, 0, true⟩, ⟨[117, 112, 115, 105, 104], 978, 0, false⟩, ⟨[117, 112, 115, 105, 108, 111, 110], 965, 0, false⟩, ⟨[117, 117, 109, 108], 252, 0, true⟩, ⟨[118, 101, 114, 98, 97, 114], 124, 0, false⟩, ⟨[118, 101, 114, 116], 124, 0, false⟩, ⟨[119, 101, 105, 101, 114, 112], 8472, 0, false⟩, ⟨[120, 105], 958, 0, false⟩, ⟨[121, 97, 99, 117, 116, 101], 253, 0, true⟩, ⟨[121, 101, 110], 165, 0, true⟩, ⟨[121, 117, 109, 108], 255, 0, true⟩, ⟨[122, 101, 116, 97], 950, 0, false⟩, ⟨[122, 102, 114], 120119, 0, false⟩, ⟨[122, 119, 106], 8205, 0, false⟩, ⟨[122, 119, 110, 106], 8204, 0, false⟩]
def ents : List Ent := ents0 ++ ents1 ++ ents2 ++ ents3 ++ ents4 ++ ents5 ++ ents6 ++ ents7
def Ent.says (e : Ent) : List Int := if e.second ≠ 0 then [e.first, e.second] else [e.first]
def entStep (s : List UInt8) (acc : Nat × List Int) (e : Ent) : Nat × List Int :=
  if e.name.isPrefixOf s then
    if s[e.name.length]? = some 59 then (if acc.1 < e.name.length + 1 then (e.name.length + 1, e.says) else acc)
    else if e.bare then (if acc.1 < e.name.length then (e.name.length, e.says) else acc) else acc
  else acc
def longest (s : List UInt8) : Nat × List Int := ents.foldl (entStep s) (0, [])
def valueR (r : Int) : Int :=
  if digitB r then r - 48 else if decide (97 ≤ r) && decide (r ≤ 102) then r - 97 + 10 else if decide (65 ≤ r) && decide (r ≤ 70) then r - 65 + 10 else -1
def digitOf (base r : Int) : Int := if 0 ≤ valueR r ∧ valueR r < base then valueR r else -1
def windows : List Int := [0x20AC, 0x0081, 0x201A, 0x0192, 0x201E, 0x2026, 0x2020, 0x2021, 0x02C6, 0x2030, 0x0160, 0x2039, 0x0152, 0x008D, 0x017D, 0x008F,
  0x0090, 0x2018, 0x2019, 0x201C, 0x201D, 0x2022, 0x2013, 0x2014, 0x02DC, 0x2122, 0x0161, 0x203A, 0x0153, 0x009D, 0x017E, 0x0178]
namespace M
def digitsN : Nat → M → Int → Int → Int × M
  | 0, S, _, n => (n, S)
  | k + 1, S, base, n => if 0 ≤ digitOf base (S.peek 0) then digitsN k S.read base (min (n * base + digitOf base (S.peek 0)) 1114112) else (n, S)
def numEnd (n : Int) (S : M) : List Int × M :=
  if n = 0 then ([65533], S.fault 16) else if 1114111 < n then ([65533], S.fault 1) else if 55296 ≤ n ∧ n ≤ 57343 then ([65533], S.fault 17) else
  if noncharB n then ([n], S.fault 14) else if controlB n then ([if 128 ≤ n then windows.getD (n - 128).toNat 0 else n], S.fault 3) else ([n], S)
def semi (S : M) : M := if S.peek 0 = 59 then S.read else S.fault 12
def digits (S : M) (base : Int) : Int × M := digitsN (S.inp.length + 1) S base 0
def numBody (base : Int) (out : List Int) (S : M) : List Int × M :=
  if digitOf base (S.peek 0) < 0 then (out, S.fault 0) else numEnd (S.digits base).1 (S.digits base).2.semi
def isX (r : Int) : Bool := decide (r = 120) || decide (r = 88)
def numeric (S : M) : List Int × M :=
  if isX (S.read.peek 0) then numBody 16 [38, S.peek 0, S.read.peek 0] S.read.read else numBody 10 [38, S.peek 0] S.read
/-- The runes ahead, at most a hundred. -/
def ahead (S : M) : List Int := (S.inp.drop S.pos).take 100
def wordsN : Nat → M → List Int → List Int × M
  | 0, S, out => (out, S)
  | k + 1, S, out => if wordB (S.peek 0) then wordsN k S.read (out ++ [S.peek 0]) else (out, S)
def unknown (S : M) : M := if S.peek 0 = 59 then S.fault 23 else S
def skipTo (S : M) (n : Nat) : M := { S with pos := S.pos + n }
def named1 (S : M) (attr : Bool) (n : Nat) (l : List Int) : List Int × M :=
  let name := (S.inp.drop S.pos).take n
  let bare := name.getLast? != some 59
  if attr && bare && (decide ((S.skipTo n).peek 0 = 61) || wordB ((S.skipTo n).peek 0)) then (38 :: name, S.skipTo n) else
  if bare then (l, (S.skipTo n).fault 12) else (l, S.skipTo n)
def reference (S : M) (attr : Bool) : List Int × M :=
  if S.peek 0 = 35 then S.numeric else if wordB (S.peek 0) then
    if (longest (runesBytes S.ahead).data.toList).1 = 0 then ((wordsN (S.inp.length + 1) S [38]).1, (wordsN (S.inp.length + 1) S [38]).2.unknown)
    else S.named1 attr (longest (runesBytes S.ahead).data.toList).1 (longest (runesBytes S.ahead).data.toList).2
  else ([38], S)
/-- Blanks are skipped: r was read. -/
def blanksN : Nat → M → Int → M × Int
  | 0, S, r => (S, r)
  | k + 1, S, r => if blankB r then blanksN k S.read (S.peek 0) else (S, r)
def blanks (S : M) (r : Int) : M × Int := blanksN (S.inp.length + 2) S r
def put (S : M) (l : List Int) : M := { S with value := S.value ++ l }
def quotedN : Nat → M → Int → Option (Int × M)
  | 0, _, _ => none
  | k + 1, S, q =>
    if S.peek 0 = q then (S.read.read.edge (S.read.peek 0)).map fun y => if y.1 ≠ 0 then y else (2, y.2.fault 13) else
    if S.peek 0 = 38 then quotedN k ((S.read.reference true).2.put (S.read.reference true).1) q else
    if S.peek 0 = 0 then quotedN k ((S.read.fault 21).put [65533]) q else
    if S.peek 0 = -1 then S.read.edge (-1) else quotedN k (S.read.put [S.peek 0]) q
def quoted (S : M) (q : Int) : Option (Int × M) := quotedN (S.inp.length + 2) S q
def oddB (r : Int) : Bool := decide (r = 34) || decide (r = 39) || decide (r = 60) || decide (r = 61) || decide (r = 96)
def unquotedN : Nat → M → Int → Option (Int × M)
  | 0, _, _ => none
  | k + 1, S, r =>
    if blankB r || decide (r = 62) || decide (r = -1) then S.edge r else
    if r = 38 then unquotedN k ((S.reference true).2.put (S.reference true).1).read (((S.reference true).2.put (S.reference true).1).peek 0) else
    if r = 0 then unquotedN k ((S.fault 21).put [65533]).read (((S.fault 21).put [65533]).peek 0) else
    if oddB r then unquotedN k ((S.fault 19).put [r]).read (((S.fault 19).put [r]).peek 0) else unquotedN k (S.put [r]).read ((S.put [r]).peek 0)
def unquoted (S : M) (r : Int) : Option (Int × M) := unquotedN (S.inp.length + 2) S r
def before (S : M) : Option (Int × M) :=
  let p := S.read.blanks (S.peek 0)
  if p.2 = 34 ∨ p.2 = 39 then p.1.quoted p.2 else if p.2 = 62 then (p.1.fault 10).edge 62 else p.1.unquoted p.2
def afterName (S : M) (r : Int) : Option (Int × M) :=
  let p := S.blanks r
  if p.2 = 61 then p.1.before else (p.1.edge p.2).map fun y => if y.1 ≠ 0 then y else (2, y.2)
def attr1 (S : M) (r : Int) : M := { S with attr := S.attr ++ [lowerR r] }
def attrOf (S : M) (r : Int) : M :=
  if r = 0 then (S.fault 21).attr1 65533 else if r = 34 ∨ r = 39 ∨ r = 60 then (S.fault 18).attr1 r else S.attr1 r
def attrNameN : Nat → M → Int → Option (Int × M)
  | 0, _, _ => none
  | k + 1, S, r =>
    if blankB r || decide (r = 47) || decide (r = 62) || decide (r = -1) then S.leave.afterName r else
    if r = 61 then S.leave.before else attrNameN k (S.attrOf r).read ((S.attrOf r).peek 0)
def attrName (S : M) (r : Int) : Option (Int × M) := attrNameN (S.inp.length + 2) S r
/-- With the attribute's first rune r. -/
def attrFrom (S : M) (r : Int) : Option (Int × M) :=
  let S1 := { S.keep with named := true }
  if r = 61 then ({ S1.fault 20 with attr := [r] } : M).read.attrName (({ S1.fault 20 with attr := [r] } : M).peek 0) else S1.attrName r
/-- The states before an attribute's name, with r; 'next' is what follows. -/
def stepA (next : M → Int → Option (Bool × M)) (S : M) (r : Int) : Option (Bool × M) :=
  (S.edge r).bind fun y => if y.1 ≠ 0 then next y.2 y.1 else (y.2.attrFrom r).bind fun z => next z.2 z.1
def slashed (S : M) : M := { S.read with slash := decide (S.peek 0 = 62) }
def attrsN : Nat → M → Int → Option (Bool × M)
  | 0, _, _ => none
  | k + 1, S, to =>
    if to = 4 then some (true, S) else if to = 5 then some (false, S) else
    if to = 3 then
      if S.peek 0 = 62 ∨ S.peek 0 = -1 then (S.slashed.edge (S.peek 0)).bind fun y => attrsN k y.2 y.1
      else stepA (attrsN k) (S.slashed.fault 22) (S.peek 0)
    else stepA (attrsN k) (if to = 1 then S.read else S) (if to = 1 then S.peek 0 else if to = 2 then S.last else 0)
end M
end Go.Sv
/-! Own words: what the state's functions leave alone, and the room they need. -/
namespace Go.Sv
/-- The same input, not gone back. -/
structure M.Fwd (S T : M) : Prop where
  i : T.inp = S.inp
  p : S.pos ≤ T.pos
  s : T.stale = S.stale
  c : T.rcdata = S.rcdata
theorem M.read_rc (S : M) : S.read.rcdata = S.rcdata := by unfold M.read; (repeat' split) <;> rfl
namespace M
theorem Fwd.refl (S : M) : Fwd S S := ⟨rfl, Nat.le_refl _, rfl, rfl⟩
theorem Fwd.trans {S T U : M} (h : Fwd S T) (g : Fwd T U) : Fwd S U := ⟨g.i.trans h.i, Nat.le_trans h.p g.p, g.s.trans h.s, g.c.trans h.c⟩
theorem fwd_read (S : M) : Fwd S S.read := by
  refine ⟨S.read_inp, ?_, S.read_st, S.read_rc⟩
  by_cases h : S.peek 0 = -1
  · rw [read_eof h]; exact Nat.le_refl _
  · rw [read_pos h]; omega
theorem fwd_fault (S : M) (x : Int) : Fwd S (S.fault x) := ⟨rfl, Nat.le_refl _, rfl, rfl⟩
theorem fwd_put (S : M) (l : List Int) : Fwd S (S.put l) := ⟨rfl, Nat.le_refl _, rfl, rfl⟩
theorem fwd_skipTo (S : M) (n : Nat) : Fwd S (S.skipTo n) := ⟨rfl, by simp [skipTo], rfl, rfl⟩
theorem fwd_semi (S : M) : Fwd S S.semi := by unfold semi; split; exact S.fwd_read; exact S.fwd_fault _
theorem fwd_unknown (S : M) : Fwd S S.unknown := by unfold unknown; split; exact S.fwd_fault _; exact Fwd.refl S
theorem fwd_digitsN : ∀ (k : Nat) (S : M) (b n : Int), Fwd S (digitsN k S b n).2
  | 0, S, _, _ => Fwd.refl S
  | k + 1, S, b, n => by unfold digitsN; split; exact S.fwd_read.trans (fwd_digitsN k _ _ _); exact Fwd.refl S
theorem fwd_numEnd (n : Int) (S : M) : Fwd S (numEnd n S).2 := by
  unfold numEnd; (repeat' split) <;> first | exact S.fwd_fault _ | exact Fwd.refl S
theorem fwd_numBody (b : Int) (out : List Int) (S : M) : Fwd S (numBody b out S).2 := by
  unfold numBody; split
  · exact S.fwd_fault _
  · exact ((fwd_digitsN _ S b 0).trans (fwd_semi _)).trans (fwd_numEnd _ _)
theorem fwd_numeric (S : M) : Fwd S S.numeric.2 := by
  unfold numeric; split
  · exact (S.fwd_read.trans S.read.fwd_read).trans (fwd_numBody _ _ _)
  · exact S.fwd_read.trans (fwd_numBody _ _ _)
theorem fwd_wordsN : ∀ (k : Nat) (S : M) (o : List Int), Fwd S (wordsN k S o).2
  | 0, S, _ => Fwd.refl S
  | k + 1, S, o => by unfold wordsN; split; exact S.fwd_read.trans (fwd_wordsN k _ _); exact Fwd.refl S
theorem fwd_named1 (S : M) (a : Bool) (n : Nat) (l : List Int) : Fwd S (S.named1 a n l).2 := by
  unfold named1; simp only []; (repeat' split) <;> first | exact (S.fwd_skipTo n) | exact (S.fwd_skipTo n).trans (fwd_fault _ _)
theorem fwd_reference (S : M) (a : Bool) : Fwd S (S.reference a).2 := by
  unfold reference; (repeat' split)
  · exact S.fwd_numeric
  · exact (fwd_wordsN _ S _).trans (fwd_unknown _)
  · exact fwd_named1 _ _ _ _
  · exact Fwd.refl S
theorem fwd_blanksN : ∀ (k : Nat) (S : M) (r : Int), Fwd S (blanksN k S r).1
  | 0, S, _ => Fwd.refl S
  | k + 1, S, r => by unfold blanksN; split; exact S.fwd_read.trans (fwd_blanksN k _ _); exact Fwd.refl S
theorem fwd_attrOf (S : M) (r : Int) : Fwd S (S.attrOf r) := by
  unfold attrOf attr1; (repeat' split) <;> exact ⟨rfl, Nat.le_refl _, rfl, rfl⟩
namespace Ok
variable {S : M} {c : Nat}
theorem put (h : S.Ok c) {d : Nat} {l : List Int} (hd : d + l.length ≤ c) : (S.put l).Ok d := ⟨h.p, h.n, h.r, by have := h.s; simp [M.put, M.sz] at *; omega⟩
theorem attr1 (h : S.Ok c) {d : Nat} {r : Int} (hd : d + 1 ≤ c) : (S.attr1 r).Ok d := ⟨h.p, h.n, h.r, by have := h.s; simp [M.attr1, M.sz] at *; omega⟩
theorem attrOf (h : S.Ok c) {d : Nat} {r : Int} (hd : d + 2 ≤ c) : (S.attrOf r).Ok d := by
  unfold M.attrOf
  (repeat' split)
  · exact (h.fault (d := d + 1) (by omega)).attr1 (by omega)
  · exact (h.fault (d := d + 1) (by omega)).attr1 (by omega)
  · exact h.attr1 (by omega)
theorem semi (h : S.Ok c) {d : Nat} (hd : d + 1 ≤ c) : S.semi.Ok d := by
  unfold M.semi; split
  · exact h.read.le (by omega)
  · exact h.fault hd
theorem unknown (h : S.Ok c) {d : Nat} (hd : d + 1 ≤ c) : S.unknown.Ok d := by
  unfold M.unknown; split
  · exact h.fault hd
  · exact h.le (by omega)
theorem digitsN : ∀ (k : Nat) {S : M} (b n : Int), S.Ok c → (M.digitsN k S b n).2.Ok c
  | 0, _, _, _, h => h
  | k + 1, S, b, n, h => by unfold M.digitsN; split; exact digitsN k _ _ h.read; exact h
theorem numEnd (h : S.Ok c) {n : Int} {d : Nat} (hd : d + 2 ≤ c) : (M.numEnd n S).2.Ok (d + (M.numEnd n S).1.length) := by
  unfold M.numEnd; (repeat' split) <;> first | exact h.fault (by simp; omega) | exact h.le (by simp; omega)
theorem numBody (h : S.Ok c) {b : Int} {out : List Int} {d : Nat} (hd : d + out.length + 3 ≤ c) : (M.numBody b out S).2.Ok (d + (M.numBody b out S).1.length) := by
  unfold M.numBody; split
  · exact h.fault (by simp only []; omega)
  · exact ((digitsN _ b 0 h).semi (d := d + 2) (by omega)).numEnd (by omega)
theorem numeric (h : S.Ok c) {d : Nat} (hd : d + 6 ≤ c) : S.numeric.2.Ok (d + S.numeric.1.length) := by
  unfold M.numeric; split
  · exact (h.read.read).numBody (by simp; omega)
  · exact h.read.numBody (by simp; omega)
theorem wordsN : ∀ (k : Nat) {S : M} (out : List Int) {c : Nat}, S.Ok (c + out.length) → (M.wordsN k S out).2.Ok (c + (M.wordsN k S out).1.length)
  | 0, _, _, _, h => h
  | k + 1, S, out, c, h => by
    unfold M.wordsN
    split
    · rename_i hw
      have h0 : S.peek 0 ≠ -1 := fun e => by rw [e] at hw; exact absurd hw (by decide)
      exact wordsN k _ ((h.read_more h0).le (by simp; omega))
    · exact h
theorem skipTo (h : S.Ok c) {n d : Nat} (hd : d ≤ c + 64 * n) (hn : S.pos + n ≤ S.inp.length) : (S.skipTo n).Ok d := ⟨hn, h.n, h.r, by have := h.s; have := h.p; simp [M.skipTo, M.sz] at *; omega⟩
end Ok
end M
end Go.Sv
/-! Own words: what the states of a tag leave behind. -/
namespace Go.Sv
/-- What 'edge' has no use for. -/
def plainB (r : Int) : Bool := !blankB r && !decide (r = 47) && !decide (r = 62) && !decide (r = -1)
/-- No RCDATA element is open, or one that is known. -/
def RC (S : M) : Prop := S.rcdata.data.toList = [] ∨ inSet 2 S.rcdata = true
/-- What a state of a tag leaves -/
structure Res (S : M) (d : Nat) (y : Int × M) : Prop where
  t : y.1 = 1 ∨ y.1 = 2 ∨ y.1 = 3 ∨ y.1 = 4 ∨ y.1 = 5
  i : y.2.inp = S.inp
  p : S.pos ≤ y.2.pos
  s : y.1 ≠ 4 → y.2.stale = S.stale
  o : y.2.Ok d
  l : y.1 = 2 → y.2.Ok (d + 40) ∧ plainB y.2.last = true ∧ y.2.last ≤ 1114111 ∧ -1 ≤ y.2.last
  c : RC S → RC y.2
/-- It came to the tag's end, or on. -/
def Gone (S : M) (y : Int × M) : Prop := y.1 = 4 ∨ y.1 = 5 ∨ S.pos < y.2.pos
theorem Res.of {S T : M} {d : Nat} {y : Int × M} (h : Res T d y) (f : M.Fwd S T) : Res S d y :=
  ⟨h.t, h.i.trans f.i, Nat.le_trans f.p h.p, fun h4 => (h.s h4).trans f.s, h.o, h.l, fun h1 => h.c (by unfold RC at *; rw [f.c]; exact h1)⟩
theorem Gone.of {S T : M} {y : Int × M} (h : Gone T y) (f : M.Fwd S T) : Gone S y := by
  rcases h with h | h | h
  · exact .inl h
  · exact .inr (.inl h)
  · exact .inr (.inr (Nat.lt_of_le_of_lt f.p h))
theorem Gone.lt {S T : M} {d : Nat} {y : Int × M} (h : Res T d y) (f : S.pos < T.pos) : Gone S y := .inr (.inr (Nat.lt_of_lt_of_le f h.p))
namespace M
theorem keep_inp (S : M) : S.keep.inp = S.inp := rfl
theorem ended1_eq (S : M) : S.ended1.inp = S.inp ∧ S.ended1.pos = S.pos := by unfold ended1; split <;> exact ⟨rfl, rfl⟩
theorem ended2_eq (S : M) : S.ended2.inp = S.inp ∧ S.ended2.pos = S.pos := by unfold ended2; split <;> exact ⟨rfl, rfl⟩
theorem mid_eq (S : M) : S.mid.inp = S.inp ∧ S.mid.pos = S.pos := by
  unfold mid; split
  · exact ⟨(ended2_eq _).1.trans (ended1_eq S).1, (ended2_eq _).2.trans (ended1_eq S).2⟩
  · exact ⟨rfl, rfl⟩
theorem flush_eq (S : M) : S.flush.inp = S.inp ∧ S.flush.pos = S.pos := by unfold flush; split <;> exact ⟨rfl, rfl⟩
theorem rest_eq {S T : M} (e : S.rest = some T) : T.inp = S.inp ∧ T.pos = S.pos := by
  unfold rest at e
  (repeat' split at e) <;> first | (cases e; done) | (cases e; exact ⟨rfl, rfl⟩)
theorem told_eq {S T : M} (e : S.told = some T) : T.inp = S.inp ∧ T.pos = S.pos := by
  have h1 := rest_eq e
  have h2 := flush_eq S.keep.titled.mid
  have h3 := mid_eq S.keep.titled
  exact ⟨h1.1.trans (h2.1.trans h3.1), h1.2.trans (h2.2.trans h3.2)⟩
end M
theorem M.flush_rc (S : M) : S.flush.rcdata = S.rcdata := by unfold M.flush; split <;> rfl
theorem told_rc {S T : M} (e : S.told = some T) : RC T := by
  unfold M.told M.rest at e
  (repeat' split at e)
  · cases e; exact .inl rfl
  · rename_i h; cases e; exact .inr h
  · cases e
  · cases e; exact .inl rfl
theorem edge_res {S : M} {r : Int} {y : Int × M} {d : Nat} (e : S.edge r = some y) (h : S.Ok (d + 4)) (h0 : y.1 ≠ 0) : Res S d y ∧ (r = -1 → y.1 = 5) ∧ y.1 ≠ 2 := by
  have ho := h.edge e (d := d) (by omega)
  unfold M.edge at e
  (repeat' split at e)
  · rename_i hb
    cases e
    exact ⟨⟨.inl rfl, rfl, Nat.le_refl _, fun _ => rfl, ho, fun h => (by cases h), id⟩, fun h => by rw [h] at hb; exact absurd hb (by decide), by simp⟩
  · rename_i hb hr
    cases e
    exact ⟨⟨.inr (.inr (.inl rfl)), rfl, Nat.le_refl _, fun _ => rfl, ho, fun h => (by cases h), id⟩, fun h => by omega, by simp⟩
  · rename_i hb hr h6
    cases ht : S.told with
    | none => rw [ht] at e; cases e
    | some T =>
      rw [ht] at e
      cases e
      have := M.told_eq ht
      exact ⟨⟨.inr (.inr (.inr (.inl rfl))), this.1, Nat.le_of_eq this.2.symm, fun h => absurd rfl h, ho, fun h => (by cases h), fun _ => told_rc ht⟩, fun h => by omega, by simp⟩
  · cases e
    have := M.flush_eq (S.fault 8)
    exact ⟨⟨.inr (.inr (.inr (.inr rfl))), this.1, Nat.le_of_eq this.2.symm, fun _ => M.flush_st _, ho, fun h => (by cases h), fun h1 => by unfold RC at *; rw [show (S.fault 8).flush.rcdata = S.rcdata from M.flush_rc _]; exact h1⟩, fun _ => rfl, by simp⟩
  · cases e; exact absurd rfl h0
theorem plain_stay {S : M} {r : Int} (h : plainB r = true) : S.edge r = some (0, { S with last := r }) := by
  unfold plainB at h
  simp at h
  unfold M.edge
  simp [h]
theorem stay_plain {S : M} {r : Int} {y : Int × M} (e : S.edge r = some y) (h : y.1 = 0) : plainB r = true ∧ y = (0, { S with last := r }) := by
  have h1 := edge_stay e h
  refine ⟨?_, h1.2.2⟩
  unfold M.edge at e
  unfold plainB
  (repeat' split at e)
  · cases e; cases h
  · cases e; cases h
  · exact absurd ‹r = 62› h1.2.1
  · exact absurd ‹r = -1› h1.1
  · simp_all
/-- A rune that was read, and its room. -/
structure Got (S : M) (r : Int) (d : Nat) : Prop where
  o : S.Ok d
  m : r ≠ -1 → S.Ok (d + 60)
  b : -1 ≤ r ∧ r ≤ 1114111
theorem Got.read {S : M} {d : Nat} (h : S.Ok d) : Got S.read (S.peek 0) d := ⟨h.read, fun h0 => (h.read_more h0).le (by omega), h.peek 0⟩
theorem Got.le {S : M} {r : Int} {c d : Nat} (h : Got S r c) (hd : d ≤ c) : Got S r d := ⟨h.o.le hd, fun h0 => (h.m h0).le (by omega), h.b⟩
theorem blanks_got : ∀ (k : Nat) {S : M} {r : Int} {d : Nat}, Got S r d → Got (M.blanksN k S r).1 (M.blanksN k S r).2 d
  | 0, _, _, _, h => h
  | k + 1, S, r, d, h => by
    unfold M.blanksN
    split
    · exact blanks_got k (Got.read h.o)
    · exact h
theorem quoted_res (hRo : ∀ (S : M) (a : Bool) (c d : Nat), S.Ok c → d + 8 ≤ c → (S.reference a).2.Ok (d + (S.reference a).1.length)) :
    ∀ (k : Nat) {S : M} {q : Int} {y : Int × M} {d : Nat}, M.quotedN k S q = some y → S.Ok (d + 6) → 0 ≤ q → Res S d y ∧ Gone S y
  | 0, _, _, _, _, e, _, _ => by cases e
  | k + 1, S, q, y, d, e, h, hq => by
    unfold M.quotedN at e
    have hg := Got.read h
    (repeat' split at e)
    · rename_i h1
      have h0 : S.peek 0 ≠ -1 := by omega
      cases hz : S.read.read.edge (S.read.peek 0) with
      | none => rw [hz] at e; cases e
      | some z =>
        rw [hz] at e
        have hf := S.fwd_read.trans S.read.fwd_read
        have hp : S.pos < S.read.read.pos := by have := S.read.fwd_read.p; rw [M.read_pos h0] at this; omega
        by_cases hz0 : z.1 = 0
        · simp [hz0] at e
          subst e
          obtain ⟨h2, h3⟩ := stay_plain hz hz0
          have h4 : S.read.peek 0 ≠ -1 := by
            intro h; rw [h] at h2; exact absurd h2 (by decide)
          have h5 := (h.read_more h0).read_more h4
          have hb := (h.read_more h0).peek 0
          rw [h3]
          refine ⟨⟨.inr (.inl rfl), hf.i, hf.p, fun _ => hf.s, ?_, fun _ => ⟨?_, h2, hb.2, hb.1⟩, fun h1 => by unfold RC at *; show S.read.read.rcdata.data.toList = [] ∨ inSet 2 S.read.read.rcdata = true; rw [hf.c]; exact h1⟩, .inr (.inr hp)⟩
          · exact (h5.last (r := S.read.peek 0)).fault (d := d) (by omega)
          · exact (h5.last (r := S.read.peek 0)).fault (d := d + 40) (by omega)
        · simp [hz0] at e
          subst e
          have := (edge_res hz (d := d) ((h.read.read).le (by omega)) hz0).1
          exact ⟨this.of hf, Gone.lt this hp⟩
    · rename_i h1 h2
      have h0 : S.peek 0 ≠ -1 := by omega
      have hf := (S.fwd_read.trans (M.fwd_reference S.read true)).trans (M.fwd_put _ (S.read.reference true).1)
      have := quoted_res hRo k (d := d) e ((hRo _ _ _ (d + 6) (h.read_more h0) (by omega)).put (by omega)) hq
      refine ⟨this.1.of hf, Gone.lt this.1 ?_⟩
      have := (M.fwd_reference S.read true).p
      rw [M.read_pos h0] at this
      exact this
    · rename_i h1 h2 h3
      have h0 : S.peek 0 ≠ -1 := by omega
      have hf := (S.fwd_read.trans (M.fwd_fault S.read 21)).trans (M.fwd_put _ [65533])
      have := quoted_res hRo k (d := d) e (((h.read_more h0).fault (d := d + 7) (by omega)).put (by simp)) hq
      exact ⟨this.1.of hf, Gone.lt this.1 (by show S.pos < S.read.pos; rw [M.read_pos h0]; omega)⟩
    · rename_i h1 h2 h3 h4
      rw [M.read_eof h4] at e
      have := edge_res (d := d) e (h.le (by omega)) (by
        intro h; have := (edge_stay e h).1; exact this rfl)
      exact ⟨this.1, .inr (.inl (this.2.1 rfl))⟩
    · rename_i h1 h2 h3 h4
      have hf := S.fwd_read.trans (M.fwd_put S.read [S.peek 0])
      have := quoted_res hRo k (d := d) e ((h.read_more h4).put (by simp)) hq
      exact ⟨this.1.of hf, Gone.lt this.1 (by show S.pos < S.read.pos; rw [M.read_pos h4]; omega)⟩
theorem unquoted_res (hRo : ∀ (S : M) (a : Bool) (c d : Nat), S.Ok c → d + 8 ≤ c → (S.reference a).2.Ok (d + (S.reference a).1.length)) :
    ∀ (k : Nat) {S : M} {r : Int} {y : Int × M} {d : Nat}, M.unquotedN k S r = some y → Got S r (d + 6) → Res S d y ∧ (r = -1 → y.1 = 5)
  | 0, _, _, _, _, e, _ => by cases e
  | k + 1, S, r, y, d, e, h => by
    unfold M.unquotedN at e
    have step : ∀ (T : M), M.Fwd S T → T.Ok (d + 6) → M.unquotedN k T.read (T.peek 0) = some y → Res S d y := fun T hf ho he =>
      ((unquoted_res hRo k he (Got.read ho)).1).of (hf.trans T.fwd_read)
    (repeat' split at e)
    · rename_i h1
      have h0 : y.1 ≠ 0 := by
        intro h0
        have h2 := (stay_plain e h0).1
        unfold plainB at h2
        simp at h1 h2
        rcases h1 with (h1 | h1) | h1
        · rw [h2.1.1.1] at h1; cases h1
        · exact h2.1.2 h1
        · exact h2.2 h1
      have := edge_res (d := d) e (h.o.le (by omega)) h0
      exact ⟨this.1, this.2.1⟩
    · rename_i h1 h2
      exact ⟨step _ ((M.fwd_reference S true).trans (M.fwd_put _ _)) ((hRo _ _ _ (d + 6) (h.m (by omega)) (by omega)).put (by omega)) e, fun h => by omega⟩
    · rename_i h1 h2 h3
      exact ⟨step _ ((M.fwd_fault S 21).trans (M.fwd_put _ _)) (((h.m (by omega)).fault (d := d + 7) (by omega)).put (by simp)) e, fun h => by omega⟩
    · rename_i h1 h2 h3 h4
      have h0 : r ≠ -1 := by intro h5; rw [h5] at h1; exact absurd h1 (by decide)
      exact ⟨step _ ((M.fwd_fault S 19).trans (M.fwd_put _ _)) (((h.m h0).fault (d := d + 7) (by omega)).put (by simp)) e, fun h => absurd h h0⟩
    · rename_i h1 h2 h3 h4
      have h0 : r ≠ -1 := by intro h5; rw [h5] at h1; exact absurd h1 (by decide)
      exact ⟨step _ (M.fwd_put _ _) ((h.m h0).put (by simp)) e, fun h => absurd h h0⟩
section
variable (hRo : ∀ (S : M) (a : Bool) (c d : Nat), S.Ok c → d + 8 ≤ c → (S.reference a).2.Ok (d + (S.reference a).1.length))
include hRo
theorem before_res {S : M} {y : Int × M} {d : Nat} (e : S.before = some y) (h : S.Ok (d + 8)) : Res S d y ∧ Gone S y := by
  have hg : Got (S.read.blanks (S.peek 0)).1 (S.read.blanks (S.peek 0)).2 (d + 8) := blanks_got _ (Got.read h)
  have hf : M.Fwd S (S.read.blanks (S.peek 0)).1 := S.fwd_read.trans (M.fwd_blanksN _ _ _)
  have hgo : S.peek 0 = -1 ∧ (S.read.blanks (S.peek 0)).2 = -1 ∨ S.pos < (S.read.blanks (S.peek 0)).1.pos := by
    by_cases h0 : S.peek 0 = -1
    · left
      refine ⟨h0, ?_⟩
      rw [h0]
      unfold M.blanks M.blanksN
      rw [if_neg (by decide)]
    · right
      have := (M.fwd_blanksN (S.read.inp.length + 2) S.read (S.peek 0)).p
      rw [M.read_pos h0] at this
      exact this
  unfold M.before at e
  simp only [] at e
  generalize S.read.blanks (S.peek 0) = p at *
  (repeat' split at e)
  · rename_i h1
    have := quoted_res hRo _ (d := d) e (hg.o.le (by omega)) (by omega)
    exact ⟨this.1.of hf, this.2.of hf⟩
  · rename_i h1 h2
    have h0 : y.1 ≠ 0 := fun h0 => (edge_stay e h0).2.1 rfl
    have := edge_res (d := d) e (hg.o.fault (d := d + 4) (by omega)) h0
    have hr := this.1.of (hf.trans (M.fwd_fault p.1 10))
    refine ⟨hr, ?_⟩
    rcases hgo with ⟨_, h3⟩ | h3
    · omega
    · exact Gone.lt this.1 h3
  · rename_i h1 h2
    have := unquoted_res hRo _ (d := d) e (hg.le (by omega))
    refine ⟨this.1.of hf, ?_⟩
    rcases hgo with ⟨_, h3⟩ | h3
    · exact .inr (.inl (this.2 h3))
    · exact Gone.lt this.1 h3
omit hRo in
theorem blanks_or {S : M} {r : Int} {c : Nat} (h : S.Ok c) : (S.blanks r = (S, r) ∧ blankB r = false) ∨ (blankB r = true ∧ Got (S.blanks r).1 (S.blanks r).2 c) := by
  unfold M.blanks M.blanksN
  split
  · rename_i hb
    exact .inr ⟨hb, blanks_got _ (Got.read h)⟩
  · rename_i hb
    exact .inl ⟨rfl, by simpa using hb⟩
theorem afterName_res {S : M} {r : Int} {y : Int × M} {d : Nat} (e : S.afterName r = some y) (h : S.Ok (d + 8)) (hr : plainB r = false) : Res S d y ∧ (r = -1 → y.1 = 5) := by
  have hb := blanks_or (r := r) h
  have hf : M.Fwd S (S.blanks r).1 := M.fwd_blanksN _ _ _
  have h1 : r = -1 → (S.blanks r).2 = -1 := by
    intro h1
    rcases hb with ⟨h2, _⟩ | ⟨h2, _⟩
    · rw [h2]; exact h1
    · rw [h1] at h2; exact absurd h2 (by decide)
  have ho : (S.blanks r).1.Ok (d + 8) := by
    rcases hb with ⟨h2, _⟩ | ⟨_, h2⟩
    · rw [h2]; exact h
    · exact h2.o
  have hp : plainB (S.blanks r).2 = true → Got (S.blanks r).1 (S.blanks r).2 (d + 8) := by
    intro h3
    rcases hb with ⟨h2, _⟩ | ⟨_, h2⟩
    · rw [h2] at h3; rw [hr] at h3; cases h3
    · exact h2
  unfold M.afterName at e
  simp only [] at e
  generalize S.blanks r = p at *
  split at e
  · rename_i h61
    have := before_res hRo (d := d) e ho
    exact ⟨this.1.of hf, fun h => by have := h1 h; omega⟩
  · cases hz : p.1.edge p.2 with
    | none => rw [hz] at e; cases e
    | some z =>
      rw [hz] at e
      by_cases hz0 : z.1 = 0
      · simp [hz0] at e
        subst e
        obtain ⟨h2, h3⟩ := stay_plain hz hz0
        have hg := hp h2
        have h4 : p.2 ≠ -1 := by intro h; rw [h] at h2; exact absurd h2 (by decide)
        rw [h3]
        refine ⟨⟨.inr (.inl rfl), hf.i, hf.p, fun _ => hf.s, (hg.o.last).le (by omega), fun _ => ⟨((hg.m h4).last).le (by omega), h2, hg.b.2, hg.b.1⟩, fun h5 => by unfold RC at *; show p.1.rcdata.data.toList = [] ∨ inSet 2 p.1.rcdata = true; rw [hf.c]; exact h5⟩, fun h => absurd (h1 h) h4⟩
      · simp [hz0] at e
        subst e
        have := edge_res (d := d) hz (ho.le (by omega)) hz0
        exact ⟨this.1.of hf, fun h => this.2.1 (h1 h)⟩
theorem attrName_res : ∀ (k : Nat) {S : M} {r : Int} {y : Int × M} {d : Nat}, M.attrNameN k S r = some y → S.Ok (d + 10) → (r ≠ -1 → S.Ok (d + 12)) → Res S d y ∧ (r = -1 → y.1 = 5) ∧ (plainB r = true → Gone S y)
  | 0, _, _, _, _, e, _, _ => by cases e
  | k + 1, S, r, y, d, e, ho, hm => by
    have hfl : M.Fwd S S.leave := by unfold M.leave; split <;> exact ⟨rfl, Nat.le_refl _, rfl, rfl⟩
    unfold M.attrNameN at e
    (repeat' split at e)
    · rename_i h1
      have hr : plainB r = false := by
        unfold plainB
        simp at h1 ⊢
        rcases h1 with ((h1 | h1) | h1) | h1 <;> simp [h1]
      have := afterName_res hRo (d := d) e (ho.leave (by omega)) hr
      exact ⟨this.1.of hfl, this.2, fun h => by rw [hr] at h; cases h⟩
    · rename_i h1 h2
      have := before_res hRo (d := d) e (ho.leave (by omega))
      exact ⟨this.1.of hfl, fun h => by omega, fun _ => this.2.of hfl⟩
    · rename_i h1 h2
      have h0 : r ≠ -1 := by intro h; rw [h] at h1; exact absurd h1 (by decide)
      have hT : (S.attrOf r).Ok (d + 10) := (hm h0).attrOf (by omega)
      have hf := (S.fwd_attrOf r)
      have := attrName_res k (d := d) e hT.read (fun h => (hT.read_more h).le (by omega))
      refine ⟨this.1.of (hf.trans (S.attrOf r).fwd_read), fun h => absurd h h0, fun _ => ?_⟩
      by_cases h3 : (S.attrOf r).peek 0 = -1
      · exact .inr (.inl (this.2.1 h3))
      · refine Gone.lt this.1 ?_
        rw [M.read_pos h3]
        have := hf.p
        omega
theorem attrFrom_res {S : M} {r : Int} {y : Int × M} {d : Nat} (e : S.attrFrom r = some y) (h : S.Ok (d + 20)) (hr : plainB r = true) : Res S d y ∧ Gone S y := by
  have hk : ({ S.keep with named := true } : M).Ok (d + 19) := by
    have := h.keep (d := d + 19) (by omega)
    exact ⟨this.p, this.n, this.r, this.s⟩
  have hfk : M.Fwd S { S.keep with named := true } := ⟨rfl, Nat.le_refl _, rfl, rfl⟩
  have ha : ({ S.keep with named := true } : M).attr = [] := rfl
  unfold M.attrFrom at e
  simp only [] at e
  split at e
  · have hT : ({ ({ S.keep with named := true } : M).fault 20 with attr := [r] } : M).Ok (d + 17) :=
      ⟨hk.p, hk.n, hk.r, by have h2 := hk.s; have h3 : S.keep.attr.length = 0 := rfl; simp only [M.sz, M.fault, List.length_append, List.length_cons, List.length_nil] at h2 ⊢; omega⟩
    have hf : M.Fwd S { ({ S.keep with named := true } : M).fault 20 with attr := [r] } := ⟨rfl, Nat.le_refl _, rfl, rfl⟩
    generalize ({ ({ S.keep with named := true } : M).fault 20 with attr := [r] } : M) = T at *
    have := attrName_res hRo _ (d := d) e (hT.read.le (by omega)) (fun h => (hT.read_more h).le (by omega))
    refine ⟨this.1.of (hf.trans T.fwd_read), ?_⟩
    by_cases h3 : T.peek 0 = -1
    · exact .inr (.inl (this.2.1 h3))
    · refine Gone.lt this.1 ?_
      rw [M.read_pos h3]
      have := hf.p
      omega
  · have := attrName_res hRo _ (d := d) e (hk.le (by omega)) (fun _ => hk.le (by omega))
    exact ⟨this.1.of hfk, (this.2.2 hr).of hfk⟩
end
end Go.Sv
/-! Own words: the attributes of a tag, round by round. -/
namespace Go.Sv
def M.attributes (S : M) (to : Int) : Option (Bool × M) := M.attrsN (S.inp.length + 3) S to
/-- What holds where a round begins, with n rounds left. -/
structure AOk (c : Nat) (S0 : M) (n : Nat) (V : M) (to : Int) : Prop where
  t : to = 1 ∨ to = 2 ∨ to = 3 ∨ to = 4 ∨ to = 5
  i : V.inp = S0.inp
  p : S0.pos ≤ V.pos
  o : V.Ok (c + 170)
  m : to ≠ 4 → to ≠ 5 → V.Ok (c + 180) ∧ V.inp.length - V.pos + 2 ≤ n
  n : 1 ≤ n
  s : to ≠ 4 → V.stale = false
  l : to = 2 → V.Ok (c + 220) ∧ plainB V.last = true ∧ V.last ≤ 1114111 ∧ -1 ≤ V.last
  c : RC V
/-- What holds where the round has its rune r. -/
structure Cur (c : Nat) (S0 : M) (n : Nat) (V : M) (r : Int) : Prop where
  i : V.inp = S0.inp
  p : S0.pos ≤ V.pos
  s : V.stale = false
  b : -1 ≤ r ∧ r ≤ 1114111
  o : V.Ok (c + 174)
  m : r ≠ -1 → V.Ok (c + 219) ∧ V.inp.length - V.pos + 2 ≤ n + 1
  e : plainB r = false → r ≠ -1 → V.inp.length - V.pos + 2 ≤ n
  n : 1 ≤ n
  c : RC V
theorem AOk.read {c : Nat} {S0 V : M} {n : Nat} {to : Int} (h : AOk c S0 (n + 1) V to) (ht : to = 1) : Cur c S0 n V.read (V.peek 0) := by
  obtain ⟨ho, hn⟩ := h.m (by omega) (by omega)
  have hf := V.fwd_read
  have hi := hf.i
  refine ⟨hf.i.trans h.i, Nat.le_trans h.p hf.p, hf.s.trans (h.s (by omega)), ho.peek 0, ho.read.le (by omega), fun h0 => ⟨(ho.read_more h0).le (by omega), ?_⟩, fun _ h0 => ?_, by omega, by unfold RC; rw [hf.c]; exact h.c⟩
  · rw [hi, M.read_pos h0]; have := peek_lt h0; omega
  · rw [hi, M.read_pos h0]; have := peek_lt h0; omega
theorem AOk.last {c : Nat} {S0 V : M} {n : Nat} {to : Int} (h : AOk c S0 (n + 1) V to) (ht : to = 2) : Cur c S0 n V V.last := by
  obtain ⟨ho, hn⟩ := h.m (by omega) (by omega)
  obtain ⟨h1, h2, h3, h4⟩ := h.l ht
  exact ⟨h.i, h.p, h.s (by omega), ⟨h4, h3⟩, ho.le (by omega), fun h0 => ⟨h1.le (by omega), by omega⟩, fun h5 => (by rw [h5] at h2; cases h2), by omega, h.c⟩
theorem AOk.slash {c : Nat} {S0 V : M} {n : Nat} {to : Int} (h : AOk c S0 (n + 1) V to) (ht : to = 3) : Cur c S0 n V.slashed (V.peek 0) := by
  obtain ⟨ho, hn⟩ := h.m (by omega) (by omega)
  have hf := V.fwd_read
  have hi := hf.i
  have hs : ∀ {k : Nat}, V.read.Ok k → V.slashed.Ok k := fun h => ⟨h.p, h.n, h.r, h.s⟩
  refine ⟨hf.i.trans h.i, Nat.le_trans h.p hf.p, hf.s.trans (h.s (by omega)), ho.peek 0, hs (ho.read.le (by omega)), fun h0 => ⟨hs ((ho.read_more h0).le (by omega)), ?_⟩, fun _ h0 => ?_, by omega, by unfold RC; show V.read.rcdata.data.toList = [] ∨ inSet 2 V.read.rcdata = true; rw [hf.c]; exact h.c⟩
  · show V.read.inp.length - V.read.pos + 2 ≤ n + 1; rw [hi, M.read_pos h0]; have := peek_lt h0; omega
  · show V.read.inp.length - V.read.pos + 2 ≤ n; rw [hi, M.read_pos h0]; have := peek_lt h0; omega
theorem AOk.fault {c : Nat} {S0 V : M} {n : Nat} {to : Int} (h : AOk c S0 (n + 1) V to) (ht : to = 3) (h0 : V.peek 0 ≠ -1) : Cur c S0 n (V.slashed.fault 22) (V.peek 0) := by
  have hc := h.slash ht
  obtain ⟨ho, hn⟩ := h.m (by omega) (by omega)
  have hs : ∀ {k : Nat}, V.read.Ok k → V.slashed.Ok k := fun h => ⟨h.p, h.n, h.r, h.s⟩
  have h1 := hs (ho.read_more h0)
  exact ⟨hc.i, hc.p, hc.s, hc.b, h1.fault (by omega), fun _ => ⟨h1.fault (by omega), (hc.m h0).2⟩, hc.e, hc.n, hc.c⟩
theorem Cur.edge {c : Nat} {S0 V : M} {n : Nat} {r : Int} {y : Int × M} (h : Cur c S0 n V r) (e : V.edge r = some y) (h0 : y.1 ≠ 0) : AOk c S0 n y.2 y.1 := by
  have hp : plainB r = false := by
    cases hp : plainB r with
    | false => rfl
    | true => rw [plain_stay hp] at e; cases e; exact absurd rfl h0
  have h1 := edge_res (d := c + 170) e h.o h0
  have hpos : y.2.pos = V.pos ∧ y.2.inp = V.inp := by
    unfold M.edge at e
    (repeat' split at e)
    · cases e; exact ⟨rfl, rfl⟩
    · cases e; exact ⟨rfl, rfl⟩
    · cases ht : V.told with
      | none => rw [ht] at e; cases e
      | some T => rw [ht] at e; cases e; exact ⟨(M.told_eq ht).2, (M.told_eq ht).1⟩
    · cases e; exact ⟨(M.flush_eq _).2, (M.flush_eq _).1⟩
    · cases e; exact ⟨rfl, rfl⟩
  refine ⟨h1.1.t, h1.1.i.trans h.i, Nat.le_trans h.p h1.1.p, h1.1.o, fun h4 h5 => ?_, h.n, fun h4 => (h1.1.s h4).trans h.s, fun h2 => absurd h2 h1.2.2, h1.1.c h.c⟩
  have hr : r ≠ -1 := fun h6 => h5 (h1.2.1 h6)
  refine ⟨(edge_res (d := c + 180) e ((h.m hr).1.le (by omega)) h0).1.o, ?_⟩
  rw [hpos.1, hpos.2]
  exact h.e hp hr
theorem AOk.zero {c : Nat} {S0 V : M} {n : Nat} {to : Int} (h : AOk c S0 n V to) : AOk 0 S0 n V to :=
  ⟨h.t, h.i, h.p, h.o.le (by omega), fun h4 h5 => ⟨(h.m h4 h5).1.le (by omega), (h.m h4 h5).2⟩, h.n, h.s, fun h2 => ⟨(h.l h2).1.le (by omega), (h.l h2).2⟩, h.c⟩
section
variable (hRo : ∀ (S : M) (a : Bool) (c d : Nat), S.Ok c → d + 8 ≤ c → (S.reference a).2.Ok (d + (S.reference a).1.length))
include hRo
theorem Cur.from {c : Nat} {S0 V : M} {n : Nat} {r : Int} {y z : Int × M} (h : Cur c S0 n V r) (e : V.edge r = some y) (h0 : y.1 = 0) (ez : y.2.attrFrom r = some z) : AOk c S0 n z.2 z.1 := by
  obtain ⟨hp, hy⟩ := stay_plain e h0
  have hr : r ≠ -1 := by intro h6; rw [h6] at hp; exact absurd hp (by decide)
  obtain ⟨ho, hm⟩ := h.m hr
  have hoy : y.2.Ok (c + 219) := by rw [hy]; exact ho.last
  have hiy : y.2.inp = V.inp := by rw [hy]
  have hpy : y.2.pos = V.pos := by rw [hy]
  have hsy : y.2.stale = V.stale := by rw [hy]
  obtain ⟨h1, h2⟩ := attrFrom_res hRo (d := c + 180) ez (hoy.le (by omega)) hp
  refine ⟨h1.t, h1.i.trans (hiy.trans h.i), by have := h1.p; have := h.p; omega, h1.o.le (by omega), fun h4 h5 => ⟨h1.o, ?_⟩, h.n, fun h4 => (h1.s h4).trans (hsy.trans h.s), fun h2 => ?_, h1.c (by rw [hy]; exact h.c)⟩
  · rcases h2 with h2 | h2 | h2
    · exact absurd h2 h4
    · exact absurd h2 h5
    · have h3 := h1.o.p
      have h6 := h1.i
      rw [h6, hiy] at h3
      rw [h6, hiy]
      omega
  · have := h1.l h2
    exact ⟨this.1, this.2⟩
/-- What the attributes leave. -/
theorem attrs_aok {c : Nat} : ∀ (n : Nat) {S0 V : M} {to : Int} {z : Bool × M}, AOk c S0 n V to → M.attrsN n V to = some z → z.2.Ok (c + 170) ∧ z.2.inp = S0.inp ∧ S0.pos ≤ z.2.pos ∧ RC z.2
  | 0, _, _, _, _, h, _ => by have := h.n; omega
  | n + 1, S0, V, to, z, h, e => by
    have step : ∀ (T : M) (r : Int), Cur c S0 n T r → M.stepA (M.attrsN n) T r = some z → z.2.Ok (c + 170) ∧ z.2.inp = S0.inp ∧ S0.pos ≤ z.2.pos ∧ RC z.2 := by
      intro T r hc he
      unfold M.stepA at he
      cases hy : T.edge r with
      | none => rw [hy] at he; cases he
      | some y =>
        rw [hy] at he
        by_cases h0 : y.1 = 0
        · simp [h0] at he
          cases hz : y.2.attrFrom r with
          | none => rw [hz] at he; cases he
          | some q =>
            rw [hz] at he
            exact attrs_aok n (hc.from hRo hy h0 hz) he
        · simp [h0] at he
          exact attrs_aok n (hc.edge hy h0) he
    unfold M.attrsN at e
    (repeat' split at e)
    · cases e; exact ⟨h.o, h.i, h.p, h.c⟩
    · cases e; exact ⟨h.o, h.i, h.p, h.c⟩
    · rename_i h3 h4
      cases hy : V.slashed.edge (V.peek 0) with
      | none => rw [hy] at e; cases e
      | some y =>
        rw [hy] at e
        have h0 : y.1 ≠ 0 := by
          intro h0
          have := edge_stay hy h0
          omega
        exact attrs_aok n ((h.slash h3).edge hy h0) e
    · rename_i h3 h4
      exact step _ _ (h.fault h3 (by omega)) e
    · rename_i h1 h2 h3 h4
      exact step _ _ (h.read h4) e
    · rename_i h1 h2 h3 h4 h5
      exact step _ _ (h.last h5) e
    · have := h.t; omega
end
theorem tagName_res {c : Nat} : ∀ (n : Nat) {S : M} {y : Int × M}, M.tagNameN n S = some y → S.Ok (c + 190) → S.stale = false → y.2.inp = S.inp ∧ S.pos ≤ y.2.pos ∧ (y.1 ≠ 4 → y.2.stale = false) ∧ (y.1 = 1 ∨ y.1 = 3 ∨ y.1 = 4 ∨ y.1 = 5) ∧ y.2.Ok (c + 180) ∧ (RC S → RC y.2)
  | 0, _, _, e, _, _ => by cases e
  | n + 1, S, y, e, h, hs => by
    unfold M.tagNameN at e
    cases hz : S.read.edge (S.peek 0) with
    | none => rw [hz] at e; cases e
    | some z =>
      rw [hz] at e
      have hf := S.fwd_read
      by_cases h0 : z.1 = 0
      · simp [h0] at e
        obtain ⟨hp, hy⟩ := stay_plain hz h0
        have hr : S.peek 0 ≠ -1 := by intro h6; rw [h6] at hp; exact absurd hp (by decide)
        have ho : (z.2.nameOf (S.peek 0)).Ok (c + 190) := M.Ok.nameOf (c := c + 253) (by rw [hy]; exact (h.read_more hr).last) (by omega)
        have hst : (z.2.nameOf (S.peek 0)).stale = false := by rw [M.nameOf_st, hy]; exact hf.s.trans hs
        have := tagName_res n e ho hst
        rw [M.nameOf_inp, M.nameOf_pos, hy] at this
        refine ⟨this.1.trans hf.i, Nat.le_trans hf.p this.2.1, this.2.2.1, this.2.2.2.1, this.2.2.2.2.1, fun h1 => this.2.2.2.2.2 ?_⟩
        have hc : (({ S.read with last := S.peek 0 } : M).nameOf (S.peek 0)).rcdata = S.rcdata := by unfold M.nameOf; split <;> exact hf.c
        unfold RC at *
        rw [hc]
        exact h1
      · simp [h0] at e
        subst e
        have := edge_res (d := c + 180) hz (h.read.le (by omega)) h0
        refine ⟨this.1.i.trans hf.i, Nat.le_trans hf.p this.1.p, fun h4 => (this.1.s h4).trans (hf.s.trans hs), ?_, this.1.o, fun h1 => this.1.c (by unfold RC at *; rw [hf.c]; exact h1)⟩
        rcases this.1.t with h1 | h1 | h1 | h1 | h1
        · exact .inl h1
        · exact absurd h1 this.2.2
        · exact .inr (.inl h1)
        · exact .inr (.inr (.inl h1))
        · exact .inr (.inr (.inr h1))
end Go.Sv
